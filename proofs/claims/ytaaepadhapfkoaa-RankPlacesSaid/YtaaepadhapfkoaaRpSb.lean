/-
  Digest: a region that draws its order, walked in a class of worlds: a whole array is loaded, a callee lays blocks.
  Digest: an id that came in, opened.
  Rank: what the statements ask with: an order, whether two lists are the same, a number picked.
  Rank: awake, and the chapter's examples.
  Rank: ints that came in.
  Rank: the document's order is the same: a node put where it belongs.
  Rank: rows that are cut and grown again.
  Rank: the document's order of an id.
  Rank: the document's numbers that may be, who is among some, who is at home, who gets a blob.
  Rank: append onto a row of one's own, all of whose block's cells are told; the order so.
  Rank: orders, places and homes at any numbers; a list copied; a list written over.
  Rank: RankPlaces' walk.
-/
import Derived.Test.YtaaepadhapfkoaaDgR
import Derived.Deep.QuietTactic
import Derived.BigQuiet
import Derived.Test.YtaaepadhapfkoaaDgB
import Derived.OpenShut
import Derived.Lib.SmallJoins
import Derived.Test.YtaaepadhapfkoaaRkD
import Derived.Test.YtaaepadhapfkoaaRkC
import Derived.Test.YtaaepadhapfkoaaRkO
import Derived.Deep.RegionLawGrows
import Derived.Maps.AppendAt
import Derived.Test.YtaaepadhapfkoaaRpSa
import Derived.Deep.CutBlock
import Derived.Deep.RegionHeld3
import Derived.Deep.AppendLies
namespace Go.Proofs.Ytaaepadhapfkoaa
set_option linter.unusedSimpArgs false
set_option linter.unusedVariables false

section
open Go.RowKit

section
variable {P : Program} {ops : Array Oper} {C : World → Prop} {Q : Act → Prop} {rest : List Oper} {o : Oper} {a : Act}
theorem qstep_load (hw : Region.wanted o (yielded ops a.tmps) = true) (ty : TypeId) (x : Operand) (ho : o.op = .load ty x) (g : Nat) (hx : a.eval x = .pointer (some ⟨g, 0, none⟩)) (t : TypeId) (cs : Array Value) (fr : Nat × Nat) (d : TypeDesc)
    (hC : ∀ W, C W → W.heap[g]? = some (.cells cs t fr)) (hu : P.underlying ty = some d) (hd : (match d with | .struct _ | .array _ _ => true | _ => false) = true) (hi : (P.info? ty).map (·.size) = some cs.size)
    (h : wpQuiet P ops C Q rest (a.put o.dst (.agg cs))) : wpQuiet P ops C Q (o :: rest) a := by
  refine wpQuiet_step fun K hK => ?_
  rw [if_pos hw]
  refine ⟨.agg cs, fun W hW => ?_, hK _ h⟩
  unfold Oper.quietAt execOp
  simp only [ho, hx, Instr.loadAt, Instr.sureAddr, Sem.run_bind, Sem.run_pure, Result.andThen_ok, run_loadVar_row W g t ty cs fr d (hC W hW) hu hd hi]
  exact ⟨rfl, rfl⟩
theorem qstep_call (hw : Region.wanted o (yielded ops a.tmps) = true) (f : FuncId) (args : Array Operand) (tys : Array TypeId) (ho : o.op = .call { callee := .value (.func f), args := args, argTypes := tys }) (vals : Array Value) (hv : args.map a.eval = vals) (v : Value)
    (he : ∀ args w, (callFunc f args).run P w = .ok (.enter f args) w) (hC : ∀ W, C W → Calls P f vals W fun e w' => e = .returned v ∧ C w')
    (h : wpQuiet P ops C Q rest (a.put o.dst v)) : wpQuiet P ops C Q (o :: rest) a := by
  refine wpQuiet_step fun K hK => ?_
  rw [if_pos hw]
  refine ⟨v, fun W hW => ?_, hK _ h⟩
  unfold Oper.quietAt
  have hr : (execOp a.eval o).run P W = .ok (.enter f vals) W := by
    unfold execOp
    simp [ho, resolve, invoke, hv, he, Act.eval, Deferred.ofValue]
  rw [hr]
  exact ⟨rfl, hC W hW⟩
theorem wpList_load_rowW {Q : Exit → Act → World → Prop} {w : World} (hw : Region.wanted o (yielded ops a.tmps) = true) (ty : TypeId) (x : Operand) (ho : o.op = .load ty x)
    (g : Nat) (hx : a.eval x = .pointer (some ⟨g, 0, none⟩)) (t : TypeId) (cs : Array Value) (fr : Nat × Nat) (d : TypeDesc) (hg : w.heap[g]? = some (.cells cs t fr))
    (hu : P.underlying ty = some d) (hd : (match d with | .struct _ | .array _ _ => true | _ => false) = true) (hi : (P.info? ty).map (·.size) = some cs.size)
    (h : wpList P ops Q rest (a.put o.dst (.agg cs)) w) : wpList P ops Q (o :: rest) a w := by
  unfold wpList
  rw [if_pos hw]
  exact Or.inl (wp_load_row ty x ho g hx t cs fr d hg hu hd hi h)
end
end
section
open Go.ChangeShapes Go.WideShapes Go.ChangeAt Go.RowKit Go.Joins

theorem cells_back : ∀ (cs : List Value), (∀ i, i < cs.length → ∃ n : Int, cs[i]? = some (.int .u8 n) ∧ 0 ≤ n ∧ n ≤ 255) → ∃ l : List Nat, cs = cellsOf l ∧ ∀ x ∈ l, x < 256
  | [], _ => ⟨[], rfl, by simp⟩
  | c :: cs, h => by
    obtain ⟨l, e, hl⟩ := cells_back cs (fun i hi => by simpa using h (i + 1) (by simp; omega))
    obtain ⟨n, hn, h0, h1⟩ := h 0 (by simp)
    simp at hn
    subst hn
    refine ⟨n.toNat :: l, ?_, ?_⟩
    · rw [e]
      show _ = Value.int .u8 ((n.toNat : Nat) : Int) :: cellsOf l
      rw [Int.toNat_of_nonneg h0]
    · intro x hx
      rcases List.mem_cons.1 hx with rfl | hx
      · omega
      · exact hl x hx
set_option maxRecDepth 100000 in
theorem trod_id {H : Type} {enc : TypeId × Value → H} {w : World} {base : Nat} {spare : Nat → Bool} {held : Bool} {fuel : Nat} {cs : List Value} {x : DataW H × List MemPlace} (h : DataW.trod enc Try.prog w base spare held fuel 23 cs = some x) :
    ∃ l : List Nat, cs = cellsOf l ∧ l.length = 32 ∧ ∀ x ∈ l, x < 256 := by
  obtain ⟨xs, n, _, _, hlen, hxl, hf⟩ := DataW.trod_array Try.underlying23 h
  rw [show Try.prog.cellsOf 23 = 32 by kernel_rfl] at hlen
  have c5 : Try.prog.cellsOf 5 = 1 := by kernel_rfl
  have hc : ∀ i, i < cs.length → ∃ n : Int, cs[i]? = some (.int .u8 n) ∧ 0 ≤ n ∧ n ≤ 255 := by
    intro i hi
    have hi' : i < 32 := by omega
    obtain ⟨y, ey⟩ : ∃ y, xs[i]? = some y := ⟨_, List.getElem?_eq_getElem (by rw [hxl]; omega)⟩
    have h1 : (cs.drop (i * 1)).take 1 = [cs[i]] := by
      rw [Nat.mul_one, List.drop_eq_getElem_cons hi]; rfl
    have h0 : DataW.trod enc Try.prog w base spare held n 5 [cs[i]] = some y := by
      have := hf i hi'; rw [ey, c5, h1] at this; exact this
    obtain ⟨a, e, _, hw⟩ := DataW.trod_int Try.underlying5 h0
    simp at e
    exact ⟨a, by rw [List.getElem?_eq_getElem hi, e], bounds_u8 hw⟩
  obtain ⟨l, e, hl⟩ := cells_back cs hc
  subst e
  exact ⟨l, rfl, by rwa [cellsOf_length] at hlen, hl⟩
set_option maxRecDepth 100000 in
theorem open_id {H : Type} {enc : TypeId × Value → H} {w : World} {base : Nat} {spare : Nat → Bool} {held : Bool} {r : Reach} {b0 : Nat} {v : Value} {d : DataW H} {p : List MemPlace} (hv : Value.okWide Try.prog w r b0 23 v) (h : DataW.Trod enc Try.prog w base spare held 23 v d p) :
    ∃ l : List Nat, v = .agg (cellsOf l).toArray ∧ l.length = 32 ∧ ∀ x ∈ l, x < 256 := by
  simp only [Value.okWide, Try.underlying23] at hv
  obtain ⟨cs, rfl, hsz, _⟩ := hv
  obtain ⟨fuel, hf⟩ := h
  obtain ⟨l, e, h1, h2⟩ := trod_id hf
  refine ⟨l, ?_, h1, h2⟩
  congr 1
  apply Array.ext'
  simpa [Value.cells] using e
end
section
open Go.RowKit

set_option maxRecDepth 100000 in
theorem law_order_bad (id : List Nat) (n : Int) (w : World) (hl : id.length = 32) (hn : ¬ (1 ≤ n ∧ n ≤ 64)) :
    Calls Try.prog 34 #[.agg (cellsOf id).toArray, .int .i64 n] w fun e w' => e = .returned (.slice none 0 0) ∧ Below w.heap.size w w' := by
  have HO := Hf.mk (fun u => order_bad id n u hn)
  have hz : (cellsOf id).toArray.size = 32 := by rw [List.size_toArray, cellsOf_length, hl]
  have H1 := Hf.mk (heap_alloc_new w (.cells (cellsOf id).toArray 23))
  have HB : Hf (Below w.heap.size w (w.alloc (.cells (cellsOf id).toArray 23))) := ⟨(Below.refl _ _).alloc (Nat.le_refl _) _⟩
  generalize (cellsOf id).toArray = zs at *
  have HZ := Hf.mk hz
  clear hn hz hl
  go_enter Try.func34, Try.ntmps34
  go_upto_region 1 with fail
  generalize w.alloc (.cells zs 23) = W at *
  go_wp2_with (first
    | (with_reducible refine wpList_load_row rfl 23 _ rfl w.heap.size rfl 23 zs (0, 0) _ H1.out Try.underlying23 rfl (size23.trans (by rw [HZ.out])) ?_)
    | (go_at_call 24; (with_reducible refine (HO.out _).mono ?_); rintro e w1 ⟨rfl, hb1⟩; have HB1 := Hf.mk hb1; clear hb1))
  go_ret
  exact ⟨rfl, below_step HB.out HB1.out⟩
set_option maxRecDepth 100000 in
theorem law_order (id : List Nat) (n : Nat) (w : World) (hl : id.length = 32) (hb : ∀ c ∈ id, c < 256) (hn : 1 ≤ n) (hn2 : n ≤ 64) :
    Calls Try.prog 34 #[.agg (cellsOf id).toArray, .int .i64 n] w fun e w' => ∃ g cap, e = .returned (.slice (some ⟨g, 0, none⟩) n cap) ∧ RdI w' (some ⟨g, 0, none⟩) (ordI id n) ∧ n ≤ cap ∧ Below w.heap.size w w' := by
  have HO := Hf.mk (fun u => ordered_any id n u hl hb hn hn2)
  have hz : (cellsOf id).toArray.size = 32 := by rw [List.size_toArray, cellsOf_length, hl]
  have H1 := Hf.mk (heap_alloc_new w (.cells (cellsOf id).toArray 23))
  have HB : Hf (Below w.heap.size w (w.alloc (.cells (cellsOf id).toArray 23))) := ⟨(Below.refl _ _).alloc (Nat.le_refl _) _⟩
  generalize (cellsOf id).toArray = zs at *
  have HZ := Hf.mk hz
  clear hz hl hb
  have HCP : Hf (∀ (u : World) (base g cap : Nat) (xs : List Value), u.ownsRow base 3 1 (.slice (some ⟨g, 0, none⟩) n cap) n xs → n ≤ cap) := ⟨fun u base g cap xs h => by
    rcases h.2 with ⟨h0, _⟩ | ⟨g', cap', cur, hv, _, _, hh, _⟩
    · cases h0
    · cases hv; exact hh⟩
  go_enter Try.func34, Try.ntmps34
  go_upto_region 1 with fail
  generalize w.alloc (.cells zs 23) = W at *
  go_wp2_with (first
    | (with_reducible refine wpList_load_row rfl 23 _ rfl w.heap.size rfl 23 zs (0, 0) _ H1.out Try.underlying23 rfl (size23.trans (by rw [HZ.out])) ?_)
    | (go_at_call 24; (with_reducible refine (HO.out _).mono ?_); rintro e w1 ⟨g, cap, rfl, hown, hb1⟩; have HB1 := Hf.mk hb1; have HOW := Hf.mk hown; have hcap := HCP.out _ _ _ _ _ hown; clear hb1 hown))
  go_ret
  exact ⟨g, cap, rfl, rdI_own HOW.out, hcap, below_step HB.out HB1.out⟩
set_option maxHeartbeats 1000000 in
theorem same_ints (a b : Option Addr) (c d : Nat) (l : List Int) (w : World) (ha : RdI w a l) (hb : RdI w b l) (hl : l.length ≤ 1000) :
    Calls Try.prog 28 #[.slice a l.length c, .slice b l.length d] w fun e w' => e = .returned (.bool true) ∧ Below w.heap.size w w' := by
  have HA := Hf.mk ha
  have HB := Hf.mk hb
  clear ha hb
  go_enter Try.func28, Try.ntmps28
  go_wp2
  go_loopw [5, 6] (fun v i wr => ∃ k : Nat, k ≤ l.length ∧ v = .bool true ∧ i = .int .i64 k ∧ Hf (Below w.heap.size w wr)) (fun _ i _ => l.length - (intOf i).toNat)
  case atStart => exact ⟨0, by omega, by simp, rfl, ⟨Below.refl _ _⟩⟩
  case round =>
    obtain ⟨k, hk, rfl, rfl, HW⟩ := hrel
    by_cases hgo : k < l.length
    · obtain ⟨b1, o1, rfl, _, ca⟩ := (HA.out.below HW.out).form (by omega)
      obtain ⟨b2, o2, rfl, _, cb⟩ := (HB.out.below HW.out).form (by omega)
      have c0 := ca k hgo
      have c1 := cb k hgo
      have hgo2 : (k : Int) < (l.length : Int) := by omega
      generalize l.getD k 0 = x at c0 c1
      clear ca cb
      go_wp2_with go_quiet (fail)
      go_roundw
      case rel => exact ⟨k + 1, by omega, by simp, by go_num, ⟨below_drewN HW.out _⟩⟩
      case measure => simp [intOf]; omega
    · obtain rfl : k = l.length := by omega
      go_wp2
      go_ret
      exact ⟨rfl, HW.out⟩
theorem tmod_bounds (x n : Int) (hn : 1 ≤ n) : -n < x.tmod n ∧ x.tmod n < n := by
  have h1 := Int.tmod_lt_of_pos x (show 0 < n by omega)
  have h2 := Int.lt_tmod_of_pos x (show 0 < n by omega)
  exact ⟨h2, h1⟩
theorem tmod_pick (x n : Int) (hn : 1 ≤ n) : (if x.tmod n < 0 then x.tmod n + n else x.tmod n) = x % n := by
  rw [Int.tmod_eq_emod]
  have h0 := Int.emod_nonneg x (show n ≠ 0 by omega)
  have h1 := Int.emod_lt_of_pos x (show 0 < n by omega)
  split
  · split at * <;> omega
  · omega
theorem ret_iR {a b : Int} (h : a = b) : Ending.returned (.int .i64 a) = .returned (.int .i64 b) := by rw [h]
set_option maxHeartbeats 1600000 in
theorem Pick_any (x n : Int) (w : World) (hn : 1 ≤ n) (hn2 : n ≤ 9223372036854775807) : Calls Try.prog 33 #[.int .i64 x, .int .i64 n] w fun e w' => e = .returned (.int .i64 (x % n)) ∧ w = w' := by
  have hb := tmod_bounds x n hn
  have HP := Hf.mk (tmod_pick x n hn)
  obtain ⟨r, hr⟩ : ∃ r, r = x % n := ⟨_, rfl⟩
  rw [← hr] at HP ⊢
  clear hr
  go_enter Try.func33, Try.ntmps33
  go_wp2
  · have h : x.tmod n < 0 := by assumption
    have hr := HP.out
    rw [if_pos h] at hr
    go_ret
    exact ⟨ret_iR hr, rfl⟩
  · have h : 0 ≤ x.tmod n := by assumption
    have hr := HP.out
    rw [if_neg (by omega)] at hr
    go_ret
    exact ⟨ret_iR hr, rfl⟩
/-- a slice's address leads to spots -/
def RdS (w : World) (a : Option Addr) (l : List (Int × Int)) : Prop :=
  ∀ i, i < l.length → ∃ b, a = some ⟨b, 0, none⟩ ∧ b < w.heap.size ∧ w.cell? ⟨b, i * 2, none⟩ = some (.int .i64 (l.getD i (0, 0)).1) ∧ w.cell? ⟨b, i * 2 + 1, none⟩ = some (.int .i64 (l.getD i (0, 0)).2)
theorem RdS.below {w w' : World} {a : Option Addr} {l : List (Int × Int)} (h : RdS w a l) (hb : Below w.heap.size w w') : RdS w' a l := fun i hi => by
  obtain ⟨b, e, hlt, h1, h2⟩ := h i hi
  exact ⟨b, e, Nat.lt_of_lt_of_le hlt hb.size, (hb.cell (p := ⟨b, i * 2, none⟩) hlt).trans h1, (hb.cell (p := ⟨b, i * 2 + 1, none⟩) hlt).trans h2⟩
theorem flatS_get : ∀ (l : List (Int × Int)) (i c : Nat), i < l.length → c < 2 → (flatS l)[i * 2 + c]? = [Value.int .i64 (l.getD i (0, 0)).1, .int .i64 (l.getD i (0, 0)).2][c]?
  | [], i, c, h, _ => by simp at h
  | x :: l, 0, c, _, hc => by
    show ([Value.int .i64 x.1, .int .i64 x.2] ++ flatS l)[0 * 2 + c]? = _
    rw [List.getElem?_append_left (by show _ < 2; omega), Nat.zero_mul, Nat.zero_add]
    rfl
  | x :: l, i + 1, c, h, hc => by
    show ([Value.int .i64 x.1, .int .i64 x.2] ++ flatS l)[(i + 1) * 2 + c]? = _
    rw [List.getElem?_append_right (by show 2 ≤ _; omega)]
    have := flatS_get l i c (by simpa using h) hc
    rw [show (i + 1) * 2 + c - [Value.int .i64 x.1, .int .i64 x.2].length = i * 2 + c by show (i + 1) * 2 + c - 2 = _; omega, this]
    rfl
theorem rdS_own {w : World} {base n : Nat} {v : Value} {l : List (Int × Int)} (hn : n = l.length) (h : w.ownsRow base 52 2 v n (flatS l)) : ∃ A c, v = .slice A l.length c ∧ RdS w A l ∧ l.length ≤ c := by
  subst hn
  rcases h.2 with ⟨rfl, h0⟩ | ⟨g, cap, cur, rfl, _, hh, hc, _, _, ht⟩
  · obtain rfl := List.eq_nil_of_length_eq_zero h0
    exact ⟨none, 0, rfl, fun i hi => by simp at hi, Nat.le_refl _⟩
  · refine ⟨_, cap, rfl, fun i hi => ⟨g, rfl, (Array.getElem?_eq_some_iff.1 hh).1, ?_, ?_⟩, hc⟩
    · rw [Go.Joins.cell_of_block hh]
      have h1 : (cur.toList.take (l.length * 2))[i * 2]? = (flatS l)[i * 2]? := by rw [ht]
      rw [List.getElem?_take, if_pos (by omega), Array.getElem?_toList] at h1
      rw [h1]
      exact flatS_get l i 0 hi (by omega)
    · rw [Go.Joins.cell_of_block hh]
      have h1 : (cur.toList.take (l.length * 2))[i * 2 + 1]? = (flatS l)[i * 2 + 1]? := by rw [ht]
      rw [List.getElem?_take, if_pos (by omega), Array.getElem?_toList] at h1
      rw [h1]
      exact flatS_get l i 1 hi (by omega)
set_option maxHeartbeats 1000000 in
theorem same_spots (a b : Option Addr) (c d : Nat) (l : List (Int × Int)) (w : World) (ha : RdS w a l) (hb : RdS w b l) (hl : l.length ≤ 1000) :
    Calls Try.prog 29 #[.slice a l.length c, .slice b l.length d] w fun e w' => e = .returned (.bool true) ∧ Below w.heap.size w w' := by
  have HA := Hf.mk ha
  have HB := Hf.mk hb
  clear ha hb
  go_enter Try.func29, Try.ntmps29
  go_wp2
  go_loopw [5, 6] (fun v i wr => ∃ k : Nat, k ≤ l.length ∧ v = .bool true ∧ i = .int .i64 k ∧ Hf (Below w.heap.size w wr)) (fun _ i _ => l.length - (intOf i).toNat)
  case atStart => exact ⟨0, by omega, by simp, rfl, ⟨Below.refl _ _⟩⟩
  case round =>
    obtain ⟨k, hk, rfl, rfl, HW⟩ := hrel
    by_cases hgo : k < l.length
    · obtain ⟨b1, rfl, _, c0, c1⟩ := (HA.out.below HW.out) k hgo
      obtain ⟨b2, rfl, _, c2, c3⟩ := (HB.out.below HW.out) k hgo
      have hgo2 : (k : Int) < (l.length : Int) := by omega
      generalize (l.getD k (0, 0)).1 = x at c0 c2
      generalize (l.getD k (0, 0)).2 = y at c1 c3
      go_wp2_with go_quiet (fail)
      go_roundw
      case rel => exact ⟨k + 1, by omega, by simp, by go_num, ⟨below_drewN HW.out _⟩⟩
      case measure => simp [intOf]; omega
    · obtain rfl : k = l.length := by omega
      go_wp2
      go_ret
      exact ⟨rfl, HW.out⟩
end
section
open Go.RowKit

/-- the id of zeros -/
def zid : List Nat := List.replicate 32 0
theorem zid_len : zid.length = 32 := rfl
theorem zid_lt : ∀ c ∈ zid, c < 256 := by
  intro c hc
  have := List.eq_of_mem_replicate hc
  omega
theorem ordI_one (id : List Nat) : ordI id 1 = [1] := by
  have h : (ordL id 1).Perm [1] := ordL_perm id 1
  unfold ordI
  rw [List.perm_singleton.1 h]
  rfl
theorem place_one (id : List Nat) : placeS id 1 1 [1] = [(1, 1)] := by
  unfold placeS
  rw [ordI_one]
  rfl
theorem place_none (id : List Nat) : placeS id 1 1 [] = [] := by
  unfold placeS
  rw [ordI_one]
  rfl
theorem rdI_one (w : World) (x : Int) : RdI (w.alloc (.cells #[.int .i64 x] 3)) (some ⟨w.heap.size, 0, none⟩) [x] := fun i hi => by
  have : i = 0 := by simpa using hi
  subst this
  exact ⟨_, _, rfl, by simp, by rw [Go.Joins.cell_of_block (heap_alloc_new _ _)]; rfl⟩
theorem rdS_one (w : World) (x y : Int) : RdS (w.alloc (.cells #[.int .i64 x, .int .i64 y] 52)) (some ⟨w.heap.size, 0, none⟩) [(x, y)] := fun i hi => by
  have : i = 0 := by simpa using hi
  subst this
  exact ⟨_, rfl, by simp, by rw [Go.Joins.cell_of_block (heap_alloc_new _ _)]; rfl, by rw [Go.Joins.cell_of_block (heap_alloc_new _ _)]; rfl⟩
theorem zid_cells : (#[Value.int IntKind.u8 0, Value.int IntKind.u8 0, Value.int IntKind.u8 0, Value.int IntKind.u8 0, Value.int IntKind.u8 0, Value.int IntKind.u8 0, Value.int IntKind.u8 0, Value.int IntKind.u8 0, Value.int IntKind.u8 0, Value.int IntKind.u8 0, Value.int IntKind.u8 0, Value.int IntKind.u8 0, Value.int IntKind.u8 0, Value.int IntKind.u8 0, Value.int IntKind.u8 0, Value.int IntKind.u8 0, Value.int IntKind.u8 0, Value.int IntKind.u8 0, Value.int IntKind.u8 0, Value.int IntKind.u8 0, Value.int IntKind.u8 0, Value.int IntKind.u8 0, Value.int IntKind.u8 0, Value.int IntKind.u8 0, Value.int IntKind.u8 0, Value.int IntKind.u8 0, Value.int IntKind.u8 0, Value.int IntKind.u8 0, Value.int IntKind.u8 0, Value.int IntKind.u8 0, Value.int IntKind.u8 0, Value.int IntKind.u8 0] : Array Value) = (cellsOf zid).toArray := rfl
theorem kept_heap {W W' : World} {g : Nat} {o : Obj} (h : W.heap[g]? = some o) (hb : Below W.heap.size W W') : W'.heap[g]? = some o :=
  (hb.block _ (Array.getElem?_eq_some_iff.1 h).1).trans h
set_option maxHeartbeats 2000000 in
set_option maxRecDepth 100000 in
theorem awake17 (w : World) : Calls Try.prog 22 #[] w fun e w' => e = .returned (.bool true) ∧ Below w.heap.size w w' := by
  have HPL : Hf (∀ (u : World) (A : Option Addr), RdI u A [1] → Calls Try.prog 26 #[.agg (cellsOf zid).toArray, .int .i64 1, .int .i64 1, .slice A 1 1] u fun e w' => ∃ A' c', e = .returned (.tuple #[.slice A' 1 c', .int .i64 0]) ∧ RdS w' A' [(1, 1)] ∧ Below u.heap.size u w') := ⟨fun u A h => by
    have h1 := place_any zid 1 1 [1] A 1 u zid_len zid_lt (by decide) (by decide) (by decide) (by decide) h (by decide)
    rw [place_one] at h1
    refine h1.mono fun e w' h2 => ?_
    obtain ⟨v, he, ho, hb⟩ := h2
    obtain ⟨A', c', rfl, hr, _⟩ := rdS_own rfl ho
    exact ⟨A', c', he, hr, hb⟩⟩
  have HLO : Hf (∀ u : World, Calls Try.prog 34 #[.agg (cellsOf zid).toArray, .int .i64 1] u fun e w' => ∃ g cap, e = .returned (.slice (some ⟨g, 0, none⟩) 1 cap) ∧ RdI w' (some ⟨g, 0, none⟩) [1] ∧ Below u.heap.size u w') := ⟨fun u => by
    have h1 := law_order zid 1 u zid_len zid_lt (by decide) (by decide)
    rw [ordI_one] at h1
    refine h1.mono fun e w' h2 => ?_
    obtain ⟨g, cap, he, hr, _, hb⟩ := h2
    exact ⟨g, cap, he, hr, hb⟩⟩
  have HBAD := Hf.mk (fun u => law_order_bad zid 65 u zid_len (by decide))
  have HSI : Hf (∀ (u : World) (a b : Option Addr) (c d : Nat), RdI u a [1] → RdI u b [1] → Calls Try.prog 28 #[.slice a 1 c, .slice b 1 d] u fun e w' => e = .returned (.bool true) ∧ Below u.heap.size u w') := ⟨fun u a b c d h1 h2 => same_ints a b c d [1] u h1 h2 (by decide)⟩
  have HSS : Hf (∀ (u : World) (a b : Option Addr) (c d : Nat), RdS u a [(1, 1)] → RdS u b [(1, 1)] → Calls Try.prog 29 #[.slice a 1 c, .slice b 1 d] u fun e w' => e = .returned (.bool true) ∧ Below u.heap.size u w') := ⟨fun u a b c d h1 h2 => same_spots a b c d [(1, 1)] u h1 h2 (by decide)⟩
  have hz : (cellsOf zid).toArray.size = 32 := rfl
  have h1 := heap_alloc_new w (.cells (cellsOf zid).toArray 23)
  have hb0 : Below w.heap.size w (w.alloc (.cells (cellsOf zid).toArray 23)) := (Below.refl _ _).alloc (Nat.le_refl _) _
  go_enter Try.func22, Try.ntmps22
  go_upto_region 2 with fail
  rw [zid_cells]
  generalize (cellsOf zid).toArray = za at *
  have H1 := Hf.mk h1
  have HZ := Hf.mk hz
  have HB0 := Hf.mk hb0
  clear h1 hz hb0
  generalize w.alloc (.cells za 23) = W at *
  have HR1 := Hf.mk (rdI_one W 1)
  go_upto_region 3 with (first
    | (refine wpList_load_rowW rfl 23 (.tmp 1) rfl _ rfl 23 za (0, 0) _ H1.out Try.underlying23 rfl (size23.trans (by rw [HZ.out])) ?_)
    | (go_at_call 26; (with_reducible refine (HPL.out _ _ HR1.out).mono ?_); rintro e w1 ⟨A1, c1, rfl, hr, hb1⟩; have HS1 := Hf.mk hr; have HB1 := Hf.mk (below_step ((Below.refl W.heap.size W).alloc (Nat.le_refl _) _) hb1); clear hr hb1))
  have H2 := Hf.mk (kept_heap H1.out HB1.out)
  have tok1 : True := trivial
  go_wp2_with (first
    | (refine wpList_load_rowW rfl 23 (.tmp 1) rfl _ rfl 23 za (0, 0) _ H2.out Try.underlying23 rfl (size23.trans (by rw [HZ.out])) ?_)
    | (go_at_call 34; have _t := tok1; (with_reducible refine (HLO.out _).mono ?_); rintro e w2 ⟨g, cap, rfl, hr, hb2⟩; have HI2 := Hf.mk (hr.below ((Below.refl _ _).alloc (Nat.le_refl _) (.cells #[Value.int .i64 1] 3))); have HR2 := Hf.mk (rdI_one w2 1); have HB2 := Hf.mk (below_step hb2 ((Below.refl _ _).alloc (Nat.le_refl _) (.cells #[Value.int .i64 1] 3))); clear hr hb2 tok1)
    | (go_at_call 28; (with_reducible refine (HSI.out _ _ _ _ _ HI2.out HR2.out).mono ?_); rintro e w3 ⟨rfl, hb3⟩; have HB3 := Hf.mk (below_step (below_step HB2.out hb3) ((Below.refl _ _).alloc (Nat.le_refl _) (.cells #[Value.int .i64 1, Value.int .i64 1] 52))); have HS3 := Hf.mk (HS1.out.below HB3.out); have HR3 := Hf.mk (rdS_one w3 1 1); clear hb3)
    | (go_at_call 29; (with_reducible refine (HSS.out _ _ _ _ _ HS3.out HR3.out).mono ?_); rintro e w4 ⟨rfl, hb4⟩; have HB4 := Hf.mk (below_step HB3.out hb4); have H4 := Hf.mk (kept_heap H2.out HB4.out); clear hb4)
    | (refine wpList_load_rowW rfl 23 (.tmp 1) rfl _ rfl 23 za (0, 0) _ H4.out Try.underlying23 rfl (size23.trans (by rw [HZ.out])) ?_)
    | (go_at_call 34; (with_reducible refine (HBAD.out _).mono ?_); rintro e w5 ⟨rfl, hb5⟩; have HB5 := Hf.mk (below_step HB4.out hb5); clear hb5))
  go_ret
  exact ⟨rfl, below_step HB0.out (below_step HB1.out HB5.out)⟩
set_option maxHeartbeats 2000000 in
set_option maxRecDepth 100000 in
theorem known17 (w : World) : Calls Try.prog 6 #[] w fun e w' => e = .returned (.bool true) ∧ Below w.heap.size w w' := by
  have HP1 : Hf (∀ u : World, Calls Try.prog 26 #[.agg (cellsOf zid).toArray, .int .i64 1, .int .i64 1, .slice none 0 0] u fun e w' => ∃ A' c', e = .returned (.tuple #[.slice A' 0 c', .int .i64 0]) ∧ Below u.heap.size u w') := ⟨fun u => by
    have h1 := place_any zid 1 1 [] none 0 u zid_len zid_lt (by decide) (by decide) (by decide) (by decide) (RdI.nil _ _) (by decide)
    rw [place_none] at h1
    refine h1.mono fun e w' h2 => ?_
    obtain ⟨v, he, ho, hb⟩ := h2
    obtain ⟨A', c', rfl, hr, _⟩ := rdS_own rfl ho
    exact ⟨A', c', he, hb⟩⟩
  have HP2 := Hf.mk (fun u => place_bad zid 3 4 none 0 0 u zid_len (by decide))
  have HO1 := Hf.mk (fun u => order_bad zid 0 u (by decide))
  have HO2 := Hf.mk (fun u => order_bad zid 65 u (by decide))
  have HHM := Hf.mk (fun u => home_bad zid 3 4 1 u zid_len (by decide))
  have HAW := Hf.mk awake17
  have hz : (cellsOf zid).toArray.size = 32 := rfl
  have h1 := heap_alloc_new w (.cells (cellsOf zid).toArray 23)
  have hb0 : Below w.heap.size w (w.alloc (.cells (cellsOf zid).toArray 23)) := (Below.refl _ _).alloc (Nat.le_refl _) _
  go_enter Try.func6, Try.ntmps6
  go_upto_region 2 with fail
  rw [zid_cells]
  generalize (cellsOf zid).toArray = za at *
  have H0 := Hf.mk h1
  have HZ := Hf.mk hz
  have HB0 := Hf.mk hb0
  clear h1 hz hb0
  generalize w.alloc (.cells za 23) = W at *
  have tok1 : True := trivial
  have tok2 : True := trivial
  go_upto_region 6 with (first
    | (refine wpList_load_rowW rfl 23 (.tmp 1) rfl _ rfl 23 za (0, 0) _ H0.out Try.underlying23 rfl (size23.trans (by rw [HZ.out])) ?_)
    | (go_at_call 24; have _t := tok1; (with_reducible refine (HO1.out _).mono ?_); rintro e w1 ⟨rfl, hb⟩; clear tok1; have HB1 := Hf.mk hb; have H1 := Hf.mk (kept_heap H0.out hb); clear hb)
    | (refine wpList_load_rowW rfl 23 (.tmp 1) rfl _ rfl 23 za (0, 0) _ H1.out Try.underlying23 rfl (size23.trans (by rw [HZ.out])) ?_)
    | (go_at_call 24; (with_reducible refine (HO2.out _).mono ?_); rintro e w2 ⟨rfl, hb⟩; have HB2 := Hf.mk hb; have H2 := Hf.mk (kept_heap H1.out hb); clear hb)
    | (refine wpList_load_rowW rfl 23 (.tmp 1) rfl _ rfl 23 za (0, 0) _ H2.out Try.underlying23 rfl (size23.trans (by rw [HZ.out])) ?_)
    | (go_at_call 26; have _t := tok2; (with_reducible refine (HP2.out _).mono ?_); rintro e w3 ⟨rfl, hb⟩; clear tok2; have HB3 := Hf.mk hb; have H3 := Hf.mk (kept_heap H2.out hb); clear hb)
    | (refine wpList_load_rowW rfl 23 (.tmp 1) rfl _ rfl 23 za (0, 0) _ H3.out Try.underlying23 rfl (size23.trans (by rw [HZ.out])) ?_)
    | (go_at_call 26; (with_reducible refine (HP1.out _).mono ?_); rintro e w4 ⟨A4, c4, rfl, hb⟩; have HB4 := Hf.mk hb; have H4 := Hf.mk (kept_heap H3.out hb); clear hb))
  have HB4' := Hf.mk (below_step (below_step (below_step (below_step HB0.out HB1.out) HB2.out) HB3.out) HB4.out)
  clear H0 H1 H2 H3 HO1 HO2 HP1 HP2
  go_wp2_with (first
    | (go_at_call 22; (with_reducible refine (HAW.out _).mono ?_); rintro e w5 ⟨rfl, hb⟩; have HB5 := Hf.mk hb; have H5 := Hf.mk (kept_heap H4.out hb); clear hb)
    | (refine wpList_load_rowW rfl 23 (.tmp 1) rfl _ rfl 23 za (0, 0) _ H5.out Try.underlying23 rfl (size23.trans (by rw [HZ.out])) ?_)
    | (go_at_call 30; (with_reducible refine (HHM.out _).mono ?_); rintro e w6 ⟨rfl, hb⟩; have HB6 := Hf.mk hb; have H6 := Hf.mk (kept_heap H5.out hb); clear hb))
  go_ret
  exact ⟨rfl, below_step (below_step HB4'.out HB5.out) HB6.out⟩
theorem rankKnown_walk (W : World) : Calls Try.prog 6 #[] W fun e w' => e = .returned (.bool true) ∧ Below W.heap.size W w' := known17 W
end
section
open Go.RowKit

/-- a slice of ints that came in -/
def IsRow (k : IntKind) (w : World) (a : Option Addr) (len cap : Nat) (zs : List Int) : Prop :=
  (a = none ∧ len = 0 ∧ cap = 0 ∧ zs = []) ∨
  ∃ x, a = some x ∧ len ≤ cap ∧ cap ≤ maxLen ∧ zs.length = cap ∧ (∀ i, i < zs.length → w.cell? (x.add i) = some (.int k (zs.getD i 0))) ∧ ∀ n ∈ zs, (Lit.int k n).wf = true
theorem isRow_I {w : World} {a : Option Addr} {len cap : Nat} {zs : List Int} (h : IsRow .i64 w a len cap zs) : ∃ l : List Int, l.length = len ∧ RdI w a l ∧ l.length ≤ 9223372036854775807 := by
  rcases h with ⟨rfl, rfl, rfl, rfl⟩ | ⟨x, rfl, hl, hm, hz, hcell, _⟩
  · exact ⟨[], rfl, RdI.nil _ _, by decide⟩
  · refine ⟨zs.take len, by rw [List.length_take]; omega, ?_, by rw [List.length_take]; unfold maxLen at hm; omega⟩
    refine RdI.take (fun i hi => ?_) len
    obtain ⟨b, off, rfl, hc⟩ := ints_at hcell (by omega)
    have h1 := hc i hi
    refine ⟨b, off, rfl, ?_, h1⟩
    exact World.block_lt_of_cell? w ⟨b, off + i, none⟩ h1
end
section
open Go.RowKit

theorem rawW_fst_le {id : List Nat} {k : Nat} {x : Nat × Nat} (h : x ∈ rawW id k) : x.1 ≤ k := by
  obtain ⟨i, hi, rfl⟩ := List.mem_map.1 h
  have := List.mem_range.1 hi
  show i + 1 ≤ k
  omega
theorem ordW_fst_le {id : List Nat} {k : Nat} {x : Nat × Nat} (h : x ∈ ordW id k) : x.1 ≤ k := rawW_fst_le ((ordW_perm id k).mem_iff.1 h)
theorem ordW_sorted (id : List Nat) (k : Nat) : (ordW id k).Pairwise (fun x y => leW x y = true) := List.pairwise_mergeSort leW_trans leW_total _
theorem leW_iff (x y : Nat × Nat) : leW x y = true ↔ (y.2 < x.2 ∨ (x.2 = y.2 ∧ x.1 ≤ y.1)) := by unfold leW; rw [decide_eq_true_eq]
/-- a node put behind all that weigh as much -/
theorem ordW_ins (id : List Nat) (k p w : Nat) (hw : wOf id (k + 1) = w) (hp : p ≤ k) (h1 : ∀ j, j < p → w ≤ ((ordW id k).getD j (0, 0)).2) (h2 : p < k → ((ordW id k).getD p (0, 0)).2 < w) :
    (ordW id k).take p ++ (k + 1, w) :: (ordW id k).drop p = ordW id (k + 1) := by
  have hl := ordW_len id k
  have hs := ordW_sorted id k
  have hm : ∀ x ∈ ordW id k, x.1 ≤ k := fun x hx => ordW_fst_le hx
  have hpm := ordW_perm id k
  have hs2 := ordW_sorted id (k + 1)
  refine List.Perm.eq_of_pairwise (le := fun x y => leW x y = true) (fun a b _ _ h1 h2 => leW_anti a b h1 h2) ?_ hs2 ?_
  · generalize ordW id k = L at *
    have e : L.take p ++ L.drop p = L := List.take_append_drop p L
    rw [← e, List.pairwise_append] at hs
    obtain ⟨s1, s2, s3⟩ := hs
    rw [List.pairwise_append, List.pairwise_cons]
    have hd : ∀ b ∈ L.drop p, b.2 < w := fun b hb => by
      by_cases hpk : p < k
      · have h3 := h2 hpk
        have ed : L.drop p = L[p] :: L.drop (p + 1) := List.drop_eq_getElem_cons (by omega)
        rw [List.getD_eq_getElem?_getD, List.getElem?_eq_getElem (by omega)] at h3
        change L[p].2 < w at h3
        rw [ed] at hb s2
        rcases List.mem_cons.1 hb with rfl | hb'
        · exact h3
        · have := (leW_iff _ _).1 ((List.pairwise_cons.1 s2).1 b hb')
          omega
      · rw [List.drop_eq_nil_of_le (by omega)] at hb
        cases hb
    refine ⟨s1, ⟨fun b hb => (leW_iff _ _).2 (.inl (hd b hb)), s2⟩, fun a ha b hb => ?_⟩
    rcases List.mem_cons.1 hb with rfl | hb'
    · obtain ⟨j, hj, rfl⟩ := List.getElem_of_mem ha
      have hj' : j < p := by rw [List.length_take] at hj; omega
      have h3 := h1 j hj'
      rw [List.getD_eq_getElem?_getD, List.getElem?_eq_getElem (by omega)] at h3
      change w ≤ L[j].2 at h3
      rw [List.getElem_take]
      have h4 := hm L[j] (List.getElem_mem (by omega))
      refine (leW_iff _ _).2 ?_
      show w < L[j].2 ∨ (L[j].2 = w ∧ L[j].1 ≤ k + 1)
      omega
    · exact s3 a ha b hb'
  · refine List.Perm.trans ?_ (ordW_perm id (k + 1)).symm
    rw [rawW_snoc, hw]
    refine List.perm_middle.trans ?_
    rw [List.take_append_drop]
    refine List.Perm.trans (List.Perm.cons _ hpm) ?_
    exact (List.perm_append_singleton _ _).symm
end
section
open Go.RowKit

theorem info26 : (Try.prog.info? 26).map (fun i => (i.zero, i.size, i.bytes)) = some (some (.int .u64 0), 1, 8) := by kernel_rfl
/-- a row's beginning -/
theorem own_take {w : World} {base n p g cap : Nat} {e : TypeId} {xs : List Value} (h : w.ownsRow base e 1 (.slice (some ⟨g, 0, none⟩) n cap) n xs) (hp : p ≤ n) : w.ownsRow base e 1 (.slice (some ⟨g, 0, none⟩) p cap) p (xs.take p) := by
  have hl := h.1
  rcases h.2 with ⟨h0, _⟩ | ⟨g', cap', cur, hv, h1, h2, h3, h4, h5, h6⟩
  · cases h0
  · cases hv
    refine ⟨by rw [List.length_take]; omega, .inr ⟨g, cap, cur, rfl, h1, h2, by omega, h4, h5, ?_⟩⟩
    rw [← h6, List.take_take]
    congr 1
    omega
theorem own_nil_take (w : World) (base : Nat) (e : TypeId) (xs : List Value) : w.ownsRow base e 1 (.slice none 0 0) 0 (xs.take 0) := World.ownsRow_nil _ _ _ _
/-- a row's end, as cells -/
theorem own_drop {w : World} {base n p g cap : Nat} {e : TypeId} {xs : List Value} (h : w.ownsRow base e 1 (.slice (some ⟨g, 0, none⟩) n cap) n xs) : ∀ j u, (xs.drop p)[j]? = some u → w.cell? ((⟨g, p, none⟩ : Addr).add j) = some u := by
  intro j u hu
  have := h.cells (g := g) rfl (p + j) u (by rw [← List.getElem?_drop]; exact hu)
  rw [Addr.add_lit] at this ⊢
  rwa [Nat.zero_add] at this
theorem own_ne {w : World} {b1 b2 n1 n2 : Nat} {e1 e2 : TypeId} {v1 v2 : Value} {x1 x2 : List Value} (h1 : w.ownsRow b1 e1 1 v1 n1 x1) (h2 : w.ownsRow b2 e2 1 v2 n2 x2) (hne : e1 ≠ e2) : v1.ownBlock = none ∨ v1.ownBlock ≠ v2.ownBlock := by
  rcases h1.2 with ⟨rfl, _⟩ | ⟨g1, c1, k1, rfl, _, e1', _⟩
  · exact .inl rfl
  · right
    rcases h2.2 with ⟨rfl, _⟩ | ⟨g2, c2, k2, rfl, _, e2', _⟩
    · simp [Value.ownBlock]
    · intro h
      simp [Value.ownBlock] at h
      subst h
      rw [e1'] at e2'
      cases e2'
      exact hne rfl
/-- a step that makes a row of its own out of a row -/
theorem step_copy {P : Program} {ops : Array Oper} {o : Oper} {a : Act} {w : World} {K : Act → World → Prop} {Q : Exit → Act → World → Prop} {E : Prop}
    (hg : o.guard = none) (s x : Operand) (t : TypeId) (hop : o.op = Op.call { callee := Callee.builtin Builtin.append, args := #[s, x], argTypes := #[t, t] })
    (e : TypeId) (i : TypeInfo) (z : Value) (bytes : Nat) (h1 : P.underlying t = some (.slice e)) (h2 : P.info? e = some i) (h3 : i.zero = some z) (h4 : i.size = 1) (h5 : i.bytes = bytes) (h6 : z.cells.size = 1)
    (g0 : Nat) (hs : a.eval s = .slice (some ⟨g0, 0, none⟩) 0 0) (A : Option Addr) (m c : Nat) (news : List Value) (hx : a.eval x = .slice A m c) (hn : news.length = m) (hc : 0 < m → ∃ ad, A = some ad ∧ ∀ j u, news[j]? = some u → w.cell? (ad.add j) = some u) (h1c : ∀ u ∈ news, u.oneCell' = true)
    (b1 : m ≤ 1000) (b2 : bytes ≤ 1000)
    (hK : ∀ (g cap : Nat) (w' : World), Below w.heap.size w w' → (g = g0 ∨ w.heap.size ≤ g) → (∀ j u, news[j]? = some u → w'.cell? ((⟨g, 0, none⟩ : Addr).add j) = some u) → K (a.put o.dst (.slice (some ⟨g, 0, none⟩) m cap)) w') :
    if Region.wanted o (yielded ops a.tmps) = true then Oper.wp P o a w K Q else E := by
  have hw : Region.wanted o (yielded ops a.tmps) = true := by simp [Region.wanted, hg]
  rw [if_pos hw]
  have hb : m * bytes ≤ 140737488355328 := Nat.le_trans (Nat.mul_le_mul b1 b2) (by omega)
  by_cases hm : 0 < m
  · obtain ⟨ad, rfl, hcc⟩ := hc hm
    obtain ⟨v', w', hrun, r1, r2⟩ := run_append_arg_grows (P := P) w t o.type e i z 1 bytes h1 h2 h3 h4 h5 h6 (by omega) ⟨g0, 0, none⟩ 0 0 [] rfl (fun j u hj => by simp at hj) ad m c news (by omega) hcc (by omega) (by unfold maxLen; omega) (by rw [Nat.zero_add]; exact hb)
    simp only [Nat.zero_add, List.nil_append] at r1
    obtain ⟨g, cap, rfl⟩ := Go.Joins.ownsRow_form r1 hm
    unfold Oper.wp
    simp [execOp, hop, resolve, invoke, builtin, hs, hx, hrun, Result.andThen]
    exact hK g cap w' ⟨r2.os, r2.tape, r2.output, r2.size, fun k hk => r2.block k hk (by simp)⟩ (.inr (r1.lt g rfl).1) (r1.cells rfl)
  · obtain rfl : m = 0 := by omega
    have hnn : news = [] := List.eq_nil_of_length_eq_zero hn
    have hrun : (Builtin.append_ #[t, t] o.type #[.slice (some ⟨g0, 0, none⟩) 0 0, .slice A 0 c]).run P w = .ok (.slice (some ⟨g0, 0, none⟩) 0 0) w := by
      cases A <;> simp [Builtin.append_, run_underlying h1, sizeOf, typeInfo, h2, Builtin.lenOf, Builtin.firstCells, loadCells, loadCellsFrom, storeCells]
    unfold Oper.wp
    simp [execOp, hop, resolve, invoke, builtin, hs, hx, hrun, Result.andThen]
    exact hK g0 0 w (Below.refl _ _) (.inl rfl) (by rw [hnn]; intro j u hj; simp at hj)
end
section
open Go.RowKit

/-- weights as cells -/
def wtsN (l : List (Nat × Nat)) : List Value := l.map fun x => .int .u64 (x.2 : Nat)
def fstN (l : List (Nat × Nat)) : List Value := l.map fun x => .int .i64 (x.1 : Nat)
theorem fstN_one (l : List (Nat × Nat)) : ∀ u ∈ fstN l, u.oneCell' = true := by
  intro u hu
  obtain ⟨c, _, rfl⟩ := List.mem_map.1 hu
  rfl
theorem wtsN_one (l : List (Nat × Nat)) : ∀ u ∈ wtsN l, u.oneCell' = true := by
  intro u hu
  obtain ⟨c, _, rfl⟩ := List.mem_map.1 hu
  rfl
theorem fstN_ord (id : List Nat) (k : Nat) : fstN (ordW id k) = intsN (ordL id k) := by
  unfold fstN intsN ordL
  rw [List.map_map]
  rfl
theorem wts_at {w : World} {base g cap n p : Nat} {L : List (Nat × Nat)} (h : w.ownsRow base 26 1 (.slice (some ⟨g, 0, none⟩) n cap) n (wtsN L)) (hp : p < L.length) : w.cell? ⟨g, p, none⟩ = some (.int .u64 ((L.getD p (0, 0)).2 : Nat)) := by
  have := h.cells (g := g) rfl p (.int .u64 ((L.getD p (0, 0)).2 : Nat)) (by
    unfold wtsN
    rw [List.getElem?_map, List.getD_eq_getElem?_getD, List.getElem?_eq_getElem hp]
    rfl)
  rwa [Addr.add_lit, Nat.zero_add] at this
theorem bl_alloc {w u : World} (h : Below w.heap.size w u) (o : Obj) : Below w.heap.size w (u.alloc o) := h.alloc h.size o
theorem bl_drew {w u : World} (h : Below w.heap.size w u) : Below w.heap.size w u.drew := h.trans ⟨rfl, rfl, rfl, Nat.le_refl _, fun _ _ => rfl⟩
theorem bl_drewN {w u : World} (n : Nat) (h : Below w.heap.size w u) : Below w.heap.size w (u.drewN n) := below_drewN h n
theorem bl_size {w u : World} (h : Below w.heap.size w u) : w.heap.size ≤ u.heap.size := h.size
theorem own_cap {w : World} {base n g cap : Nat} {e : TypeId} {xs : List Value} (h : w.ownsRow base e 1 (.slice (some ⟨g, 0, none⟩) n cap) n xs) : n ≤ cap := by
  rcases h.2 with ⟨h0, _⟩ | ⟨g', cap', cur, hv, _, _, hh, _⟩
  · cases h0
  · cases hv; exact hh
theorem lies_at {w : World} {o : Obj} {r : Option Nat} {g : Nat} (h : r = some g ∨ g = (w.alloc o).heap.size) : Hf (r = some g ∨ w.heap.size ≤ g) := ⟨h.imp id (fun h => by subst h; simp)⟩
theorem grown_trans {a b c : World} {r : Option Nat} {g : Nat} (h : a.grownBy b r) (h2 : b.grownBy c (some g)) (hg : r = some g ∨ a.heap.size ≤ g) : a.grownBy c r :=
  ⟨h2.os.trans h.os, h2.tape.trans h.tape, h2.output.trans h.output, Nat.le_trans h.size h2.size, fun i hi hne => (h2.block i (Nat.lt_of_lt_of_le hi h.size) (fun e => by
    cases e
    rcases hg with h3 | h3
    · exact hne h3.symm
    · omega)).trans (h.block i hi hne)⟩
theorem ordW_zero (id : List Nat) : ordW id 0 = [] := List.eq_nil_of_length_eq_zero (ordW_len id 0)
theorem orderR_bad (id : List Nat) (n : Int) (w : World) (hl : id.length = 32) (hn : ¬ (1 ≤ n ∧ n ≤ 64)) :
    Calls Try.prog 25 #[.agg (cellsOf id).toArray, .int .i64 n] w fun e w' => e = .returned (.tuple #[.slice none 0 0, .int .i64 2]) ∧ Below w.heap.size w w' := by
  generalize (cellsOf id).toArray = zs
  have HB : Hf (Below w.heap.size w (w.alloc (.cells zs 23))) := ⟨(Below.refl _ _).alloc (Nat.le_refl _) _⟩
  by_cases h1 : n < 1
  · clear hn
    go_enter Try.func25, Try.ntmps25
    go_wp2
    go_ret2
    exact ⟨rfl, HB.out⟩
  · have h1' : 1 ≤ n := by omega
    have h2 : 64 < n := by omega
    clear hn h1
    go_enter Try.func25, Try.ntmps25
    go_wp2
    go_ret2
    exact ⟨rfl, HB.out⟩
set_option maxHeartbeats 4000000 in
set_option maxRecDepth 100000 in
theorem orderR_any (id : List Nat) (n : Nat) (w : World) (hl : id.length = 32) (hb : ∀ c ∈ id, c < 256) (hn : 1 ≤ n) (hn2 : n ≤ 64) :
    Calls Try.prog 25 #[.agg (cellsOf id).toArray, .int .i64 n] w fun e w' => ∃ g cap, e = .returned (.tuple #[.slice (some ⟨g, 0, none⟩) n cap, .int .i64 0]) ∧ w'.ownsRow w.heap.size 3 1 (.slice (some ⟨g, 0, none⟩) n cap) n (intsN (ordL id n)) ∧ Below w.heap.size w w' := by
  have h1 := heap_alloc_new w (.cells (cellsOf id).toArray 23)
  have HBL : Hf (Below w.heap.size w (w.alloc (.cells (cellsOf id).toArray 23))) := ⟨(Below.refl _ _).alloc (Nat.le_refl _) _⟩
  have hsz : (w.alloc (.cells (cellsOf id).toArray 23)).heap.size = w.heap.size + 1 := by simp
  have hz : (cellsOf id).toArray.size = 32 := by rw [List.size_toArray, cellsOf_length, hl]
  have HWT := Hf.mk (fun (k : Nat) (hk : k < n) (u : World) => weightR_any id (k + 1) u hl hb (by omega))
  generalize (cellsOf id).toArray = zs at *
  have H1 := Hf.mk h1
  have HZ := Hf.mk hz
  clear h1 hz hl hb
  have hn' : ¬ (n : Int) < 1 := by omega
  have hn2' : ¬ (64 : Int) < (n : Int) := by omega
  obtain ⟨i3, hi3, hz30, hz31, hz32⟩ := info_parts info3
  obtain ⟨i2, hi2, hz20, hz21, hz22⟩ := info_parts info26
  go_enter Try.func25, Try.ntmps25
  go_upto_region 1 with fail
  generalize w.alloc (.cells zs 23) = W at *
  go_wp2
  go_loopw [6, 7, 8] (fun v6 v7 v8 wr => ∃ k : Nat, k ≤ n ∧ v8 = .int .i64 ((k : Int) + 1) ∧ Hf (wr.ownsRow W.heap.size 3 1 v6 k (fstN (ordW id k))) ∧ Hf (wr.ownsRow W.heap.size 26 1 v7 k (wtsN (ordW id k))) ∧ (k = 0 → v6 = .slice none 0 0 ∧ v7 = .slice none 0 0) ∧ Hf (Below W.heap.size W wr)) (fun _ _ i _ => n + 1 - (intOf i).toNat)
  case atStart => exact ⟨0, by omega, rfl, ⟨by rw [ordW_zero]; exact World.ownsRow_nil _ _ _ _⟩, ⟨by rw [ordW_zero]; exact World.ownsRow_nil _ _ _ _⟩, fun _ => ⟨rfl, rfl⟩, ⟨Below.refl _ _⟩⟩
  case round =>
    obtain ⟨k, hk, rfl, HO6, HO7, hnil, HBR⟩ := hrel
    by_cases hgo : k < n
    · have hgo2 : (k : Int) + 1 ≤ (n : Int) := by omega
      have HBX : Hf (wr.heap[w.heap.size]? = some (.cells zs 23 (0, 0))) := ⟨(HBR.out.block _ (by omega)).trans H1.out⟩
      have HWK := Hf.mk (fun u => HWT.out k hgo u)
      rw [show ((k + 1 : Nat) : Int) = (k : Int) + 1 by omega] at HWK
      obtain ⟨wt, hwt⟩ : ∃ x, wOf id (k + 1) = x := ⟨_, rfl⟩
      rw [hwt] at HWK
      have HW2 := Hf.mk hwt
      clear hwt
      obtain ⟨L, hL⟩ : ∃ L, ordW id k = L := ⟨_, rfl⟩
      have hlen : L.length = k := by rw [← hL, ordW_len]
      rw [hL] at HO6 HO7
      have HL := Hf.mk hL
      have HLE := Hf.mk hlen
      clear hL hlen
      go_upto_block 2 with (first
        | (with_reducible refine wpList_load_row rfl 23 _ rfl w.heap.size rfl 23 zs (0, 0) _ HBX.out Try.underlying23 rfl (size23.trans (by rw [HZ.out])) ?_)
        | (go_at_call 62; (with_reducible refine (HWK.out _).mono ?_); rintro e w1 ⟨rfl, hb1⟩; have HB1 := Hf.mk hb1; clear hb1))
      have HO6' := Hf.mk (owns_below HO6.out HB1.out)
      have HO7' := Hf.mk (owns_below HO7.out HB1.out)
      have HBR1 := Hf.mk (below_step HBR.out HB1.out)
      have HSW := Hf.mk HBR1.out.size
      go_cut [10] from 19 to 66 (fun v10 wx => wx = w1 ∧ ∃ p : Nat, v10 = .int .i64 (p : Int) ∧ p ≤ k ∧ Hf (∀ j, j < p → wt ≤ (L.getD j (0, 0)).2) ∧ Hf (p < k → (L.getD p (0, 0)).2 < wt))
      case first =>
        rcases Nat.eq_zero_or_pos k with hk0 | hk0
        · subst hk0
          obtain ⟨rfl, rfl⟩ := hnil rfl
          go_wp2_with fail
          go_loop [10] (fun i => i = .int .i64 0) (fun _ => 0)
          case atStart => rfl
          case round =>
            subst hrel
            go_wp2
            go_meet
            case rel => exact ⟨rfl, 0, rfl, by omega, ⟨fun j hj => absurd hj (Nat.not_lt_zero j)⟩, ⟨fun h => absurd h (Nat.lt_irrefl 0)⟩⟩
        · obtain ⟨g6, c6, rfl⟩ := Go.Joins.ownsRow_form HO6'.out hk0
          obtain ⟨g7, c7, rfl⟩ := Go.Joins.ownsRow_form HO7'.out hk0
          clear hnil
          go_wp2_with fail
          go_loop [10] (fun i => ∃ p : Nat, i = .int .i64 (p : Int) ∧ p ≤ k ∧ Hf (∀ j, j < p → wt ≤ (L.getD j (0, 0)).2)) (fun i => k - (intOf i).toNat)
          case atStart => exact ⟨0, rfl, by omega, ⟨fun j hj => absurd hj (Nat.not_lt_zero j)⟩⟩
          case round =>
            obtain ⟨p, rfl, hp, HP⟩ := hrel
            by_cases hpk : p < k
            · have q0 := wts_at HO7'.out (p := p) (by rw [HLE.out]; exact hpk)
              obtain ⟨y, hy⟩ : ∃ y, (L.getD p (0, 0)).2 = y := ⟨_, rfl⟩
              rw [hy] at q0
              have HY := Hf.mk hy
              clear hy
              have hpk' : (p : Int) < (k : Int) := by omega
              by_cases hyw : wt ≤ y
              · have hyw' : (wt : Int) ≤ (y : Int) := by omega
                go_wp2
                go_round
                case rel => exact ⟨p + 1, by go_num, by omega, ⟨fun j hj => by
                  by_cases e : j = p
                  · subst e; rw [HY.out]; exact hyw
                  · exact HP.out j (by omega)⟩⟩
                case measure => simp [intOf]; omega
              · have hyw' : ¬ (wt : Int) ≤ (y : Int) := by omega
                go_wp2
                go_meet
                case rel => exact ⟨rfl, p, rfl, hp, HP, ⟨fun _ => by rw [HY.out]; omega⟩⟩
            · obtain rfl : p = k := by omega
              go_wp2
              go_meet
              case rel => exact ⟨rfl, p, rfl, hp, HP, ⟨fun h => absurd h (Nat.lt_irrefl p)⟩⟩
      case rest =>
        obtain ⟨rfl, p, rfl, hp, HP1, HP2⟩ := hcut
        obtain ⟨wd, hwd⟩ : ∃ v, v = wc := ⟨_, rfl⟩
        subst hwd
        have HIN : Hf (L.take p ++ (k + 1, wt) :: L.drop p = ordW id (k + 1)) := ⟨by
          rw [← HL.out]
          exact ordW_ins id k p wt HW2.out hp (by rw [HL.out]; exact HP1.out) (by rw [HL.out]; exact HP2.out)⟩
        have HF6 : Hf ((fstN L).take p ++ [.int .i64 ((k : Int) + 1)] ++ (fstN L).drop p = fstN (ordW id (k + 1))) := ⟨by
          rw [← HIN.out]; unfold fstN; simp [List.map_take, List.map_drop]⟩
        have HF7 : Hf ((wtsN L).take p ++ [.int .u64 (wt : Nat)] ++ (wtsN L).drop p = wtsN (ordW id (k + 1))) := ⟨by
          rw [← HIN.out]; unfold wtsN; simp [List.map_take, List.map_drop]⟩
        have HN6 : Hf (((fstN L).drop p).length = k - p) := ⟨by unfold fstN; rw [List.length_drop, List.length_map, HLE.out]⟩
        have HN7 : Hf (((wtsN L).drop p).length = k - p) := ⟨by unfold wtsN; rw [List.length_drop, List.length_map, HLE.out]⟩
        have HE6 : Hf (∀ u ∈ (fstN L).drop p, u.oneCell' = true) := ⟨fun u hu => fstN_one L u (List.mem_of_mem_drop hu)⟩
        have HE7 : Hf (∀ u ∈ (wtsN L).drop p, u.oneCell' = true) := ⟨fun u hu => wtsN_one L u (List.mem_of_mem_drop hu)⟩
        clear HIN
        rcases Nat.eq_zero_or_pos k with hk0 | hk0
        · subst hk0
          obtain ⟨rfl, rfl⟩ := hnil rfl
          obtain rfl : p = 0 := by omega
          have HT6 : Hf (∀ u, Below wd.heap.size wd u → u.ownsRow W.heap.size 3 1 (.slice none 0 0) 0 ((fstN L).take 0)) := ⟨fun u _ => own_nil_take _ _ _ _⟩
          have HT7 : Hf (∀ u, Below wd.heap.size wd u → u.ownsRow W.heap.size 26 1 (.slice none 0 0) 0 ((wtsN L).take 0)) := ⟨fun u _ => own_nil_take _ _ _ _⟩
          have HQ3 : Hf ((Value.slice none 0 0).ownBlock = none ∨ some 0 ≠ (Value.slice none 0 0).ownBlock) := ⟨.inl rfl⟩
          generalize (fstN L).drop 0 = N6 at *
          generalize (wtsN L).drop 0 = N7 at *
          generalize (fstN L).take 0 = F6 at *
          generalize (wtsN L).take 0 = F7 at *
          simp only [Nat.sub_zero] at HN6 HN7
          have HF6 : Hf (F6 ++ [.int .i64 1] ++ N6 = fstN (ordW id 1)) := ⟨HF6.out⟩
          have HF7 : Hf (F7 ++ [.int .u64 (wt : Nat)] ++ N7 = wtsN (ordW id 1)) := ⟨HF7.out⟩
          go_upto_region 12 with fail
          go_cut [11, 12] from 19 to 66 (fun v11 v12 wx => ∃ g1 c1 g2 c2, v11 = .slice (some ⟨g1, 0, none⟩) 0 c1 ∧ v12 = .slice (some ⟨g2, 0, none⟩) 0 c2 ∧ Hf (wd.heap.size ≤ g1 ∧ wd.heap.size ≤ g2) ∧ Hf (∀ j x, N6[j]? = some x → wx.cell? ((⟨g1, 0, none⟩ : Addr).add j) = some x) ∧ Hf (∀ j x, N7[j]? = some x → wx.cell? ((⟨g2, 0, none⟩ : Addr).add j) = some x) ∧ Hf (Below wd.heap.size wd wx))
          case first =>
            go_region_law (first
              | (refine step_copy rfl (.tmp 41) (.tmp 44) 34 rfl 3 i3 (.int .i64 0) 8 Try.underlying34 hi3 hz30 hz31 hz32 rfl _ (by first | rfl | (simp [Act.eval, Act.put]; done) | (simp [Act.eval, Act.put]; rfl)) _ 0 _ N6 (by first | rfl | (simp [Act.eval, Act.put]; done) | (simp [Act.eval, Act.put]; rfl)) HN6.out (fun hm => absurd hm (Nat.lt_irrefl 0)) HE6.out (by omega) (by omega) ?_; intro q1 d1 w8 hb8 hg8 hc8)
              | (refine step_copy rfl (.tmp 46) (.tmp 49) 110 rfl 26 i2 (.int .u64 0) 8 Try.underlying110 hi2 hz20 hz21 hz22 rfl _ (by first | rfl | (simp [Act.eval, Act.put]; done) | (simp [Act.eval, Act.put]; rfl)) _ 0 _ N7 (by first | rfl | (simp [Act.eval, Act.put]; done) | (simp [Act.eval, Act.put]; rfl)) HN7.out (fun hm => absurd hm (Nat.lt_irrefl 0)) HE7.out (by omega) (by omega) ?_; intro q2 d2 w9 hb9 hg9 hc9))
            all_goals
              have b8 : Below wd.heap.size wd w8 := by repeat (first | exact Below.refl _ _ | refine bl_alloc ?_ _ | refine bl_drew ?_ | refine bl_drewN _ ?_ | refine below_step ?_ (by assumption))
              have b89 : Below w8.heap.size w8 w9 := by repeat (first | exact Below.refl _ _ | refine bl_alloc ?_ _ | refine bl_drew ?_ | refine bl_drewN _ ?_ | refine below_step ?_ (by assumption))
              have z1 : wd.heap.size ≤ q1 := by
                rcases hg8 with h | h
                · omega
                · exact Nat.le_trans (bl_size (by repeat (first | exact Below.refl _ _ | refine bl_alloc ?_ _ | refine bl_drew ?_ | refine bl_drewN _ ?_ | refine below_step ?_ (by assumption)))) h
              have z2 : wd.heap.size ≤ q2 := by
                rcases hg9 with h | h
                · have := b8.size; omega
                · exact Nat.le_trans (bl_size (by repeat (first | exact Below.refl _ _ | refine bl_alloc ?_ _ | refine bl_drew ?_ | refine bl_drewN _ ?_ | refine below_step ?_ (by assumption)))) h
              have HZ12 := Hf.mk (And.intro z1 z2)
              have HC1 : Hf (∀ j x, N6[j]? = some x → w9.cell? ((⟨q1, 0, none⟩ : Addr).add j) = some x) := ⟨fun j x hx => cell_below b89 (hc8 j x hx)⟩
              have HC2 := Hf.mk hc9
              have HB9 := Hf.mk (below_step b8 b89)
              clear b8 b89 z1 z2 hc8 hc9 hg8 hg9 hb8 hb9
              go_wp2_with fail
              all_goals
                go_meet
                case rel => exact ⟨q1, d1, q2, d2, rfl, rfl, HZ12, HC1, HC2, HB9⟩
          case rest =>
            obtain ⟨q1, d1, q2, d2, rfl, rfl, HZ12, HC1, HC2, HB9⟩ := hcut
            have HA6 := Hf.mk (HT6.out wc HB9.out)
            have HA7 := Hf.mk (HT7.out wc HB9.out)
            have HQ1 : Hf (some q1 ≠ (Value.slice none 0 0).ownBlock) := ⟨fun h => by have := (HT6.out wd (Below.refl _ _)).lt q1 h.symm; have := HZ12.out.1; omega⟩
            have HQ2 : Hf (some q2 ≠ (Value.slice none 0 0).ownBlock) := ⟨fun h => by have := (HT7.out wd (Below.refl _ _)).lt q2 h.symm; have := HZ12.out.2; omega⟩
            have HNE : Hf ((Value.slice none 0 0).ownBlock = none ∨ (Value.slice none 0 0).ownBlock ≠ (Value.slice none 0 0).ownBlock) := ⟨own_ne HA7.out HA6.out (by decide)⟩
            have HBS : Hf (W.heap.size ≤ wc.heap.size) := ⟨Nat.le_trans HSW.out HB9.out.size⟩
            have HMX : Hf (0 + 1 ≤ maxLen) := ⟨by unfold maxLen; omega⟩
            have HMX2 : Hf (0 + 1 + 0 ≤ maxLen) := ⟨by unfold maxLen; omega⟩
            go_wp2_with (first
              | (at_builtin; refine wpList_append_lies _ rfl (.tmp 53) (.tmp 55) 34 rfl W.heap.size 3 i3 (.int .i64 0) 1 8 Try.underlying34 hi3 hz30 hz31 hz32 rfl (by decide) (Value.slice none 0 0) 0 F6 rfl (HA6.out.alloc _) ⟨wc.heap.size, 0, none⟩ 1 1 [.int .i64 1] rfl rfl (new_cells1 _ _ _) (by simp [Value.oneCell']) (by omega) HMX.out (by omega) (by have := HBS.out; simp; omega) _ rfl ?_; intro ga ca wa hown1 hgrow1 hat1 hlt1; have HOA := Hf.mk hown1; have HGA := Hf.mk ((World.grownBy_alloc wc _ _).trans hgrow1); have HAT := lies_at hat1; have HCA : Hf (∀ j x, N6[j]? = some x → wa.cell? ((⟨q1, 0, none⟩ : Addr).add j) = some x) := ⟨fun j x hx => HGA.out.cell (HC1.out j x hx) (by rw [Addr.add_lit]; exact HQ1.out)⟩; clear hown1 hgrow1 hat1 hlt1)
              | (at_builtin; refine wpList_append_own_at _ rfl (.tmp 56) (.tmp 57) 34 rfl W.heap.size 3 i3 (.int .i64 0) 1 8 Try.underlying34 hi3 hz30 hz31 hz32 rfl (by decide) (.slice (some ⟨ga, 0, none⟩) (0 + 1) ca) (0 + 1) (F6 ++ [.int .i64 1]) rfl HOA.out ⟨q1, 0, none⟩ 0 d1 N6 rfl (by have := HN6.out; omega) HCA.out HE6.out HMX2.out (by omega) (Nat.le_trans HBS.out HGA.out.size) ?_; intro vb wb hown2 hgrow2 _ _; have HOB := Hf.mk hown2; have HGB := Hf.mk (grown_trans HGA.out hgrow2 HAT.out); have HB7 := Hf.mk (HA7.out.kept HGB.out HNE.out); have HBS2 := Hf.mk (Nat.le_trans HBS.out HGB.out.size); have HCB : Hf (∀ j x, N7[j]? = some x → ((Value.slice none 0 0).ownBlock = none ∨ some q2 ≠ (Value.slice none 0 0).ownBlock) → wb.cell? ((⟨q2, 0, none⟩ : Addr).add j) = some x) := ⟨fun j x hx hq => HGB.out.cell (HC2.out j x hx) (by rw [Addr.add_lit]; rcases hq with h | h; rw [h]; simp; exact h)⟩; have HNE2 : Hf (vb.ownBlock = none ∨ vb.ownBlock ≠ (Value.slice none 0 0).ownBlock) := ⟨own_ne HOB.out HB7.out (by decide)⟩; clear hown2 hgrow2)
              | (at_builtin; refine wpList_append_lies _ rfl (.tmp 61) (.tmp 63) 110 rfl W.heap.size 26 i2 (.int .u64 0) 1 8 Try.underlying110 hi2 hz20 hz21 hz22 rfl (by decide) (Value.slice none 0 0) 0 F7 rfl (HB7.out.alloc _) ⟨wb.heap.size, 0, none⟩ 1 1 [.int .u64 (wt : Nat)] rfl rfl (new_cells1 _ _ _) (by simp [Value.oneCell']) (by omega) HMX.out (by omega) (by have := HBS2.out; simp; omega) _ rfl ?_; intro ge ce we hown3 hgrow3 hat3 hlt3; have HOE := Hf.mk hown3; have HGE := Hf.mk ((World.grownBy_alloc wb _ _).trans hgrow3); have HAT3 := lies_at hat3; have HCE : Hf (∀ j x, N7[j]? = some x → we.cell? ((⟨q2, 0, none⟩ : Addr).add j) = some x) := ⟨fun j x hx => HGE.out.cell (HCB.out j x hx (.inl rfl)) (by rw [Addr.add_lit]; exact HQ2.out)⟩; clear hown3 hgrow3 hat3 hlt3)
              | (at_builtin; refine wpList_append_own_at _ rfl (.tmp 64) (.tmp 65) 110 rfl W.heap.size 26 i2 (.int .u64 0) 1 8 Try.underlying110 hi2 hz20 hz21 hz22 rfl (by decide) (.slice (some ⟨ge, 0, none⟩) (0 + 1) ce) (0 + 1) (F7 ++ [.int .u64 (wt : Nat)]) rfl HOE.out ⟨q2, 0, none⟩ 0 d2 N7 rfl (by have := HN7.out; omega) HCE.out HE7.out HMX2.out (by omega) (Nat.le_trans HBS2.out HGE.out.size) ?_; intro vf wf hown4 hgrow4 _ _; have HOF := Hf.mk hown4; have HGF := Hf.mk (grown_trans HGE.out hgrow4 HAT3.out); have HOB2 := Hf.mk (HOB.out.kept HGF.out HNE2.out); clear hown4 hgrow4))
            go_roundw
            case rel =>
              refine ⟨1, by omega, by go_num, ⟨?_⟩, ⟨?_⟩, fun h => absurd h (by omega), ⟨?_⟩⟩
              · have := HOB2.out
                rw [HF6.out, show 0 + 1 + 0 = 1 by omega] at this
                exact this
              · have := HOF.out
                rw [HF7.out, show 0 + 1 + 0 = 1 by omega] at this
                exact this
              · exact ((below_step HBR1.out HB9.out).grown HGB.out HBS.out (fun r hr => (HT6.out wd (Below.refl _ _)).lt r hr |>.1)).grown HGF.out HBS2.out (fun r hr => (HT7.out wd (Below.refl _ _)).lt r hr |>.1)
            case measure => simp [intOf]; omega
        · obtain ⟨g6, c6, rfl⟩ := Go.Joins.ownsRow_form HO6'.out hk0
          obtain ⟨g7, c7, rfl⟩ := Go.Joins.ownsRow_form HO7'.out hk0
          have hkc6 := own_cap HO6'.out
          have hkc7 := own_cap HO7'.out
          have HD6 : Hf (∀ u, Below wd.heap.size wd u → ∀ j x, ((fstN L).drop p)[j]? = some x → u.cell? ((⟨g6, p, none⟩ : Addr).add j) = some x) := ⟨fun u hu => own_drop (owns_below HO6'.out hu)⟩
          have HD7 : Hf (∀ u, Below wd.heap.size wd u → ∀ j x, ((wtsN L).drop p)[j]? = some x → u.cell? ((⟨g7, p, none⟩ : Addr).add j) = some x) := ⟨fun u hu => own_drop (owns_below HO7'.out hu)⟩
          have HT6 : Hf (∀ u, Below wd.heap.size wd u → u.ownsRow W.heap.size 3 1 (.slice (some ⟨g6, 0, none⟩) p c6) p ((fstN L).take p)) := ⟨fun u hu => own_take (owns_below HO6'.out hu) hp⟩
          have HT7 : Hf (∀ u, Below wd.heap.size wd u → u.ownsRow W.heap.size 26 1 (.slice (some ⟨g7, 0, none⟩) p c7) p ((wtsN L).take p)) := ⟨fun u hu => own_take (owns_below HO7'.out hu) hp⟩
          have hp' : (p : Int) ≤ (k : Int) := by omega
          have hpc6 : (k : Int) ≤ (c6 : Int) := by omega
          have hpc7 : (k : Int) ≤ (c7 : Int) := by omega
          have HIF6 : Hf (0 < k - p → (if c6 = p then some (⟨g6, 0, none⟩ : Addr) else some ⟨g6, p, none⟩) = some ⟨g6, p, none⟩) := ⟨fun h => if_neg (by omega)⟩
          have HIF7 : Hf (0 < k - p → (if c7 = p then some (⟨g7, 0, none⟩ : Addr) else some ⟨g7, p, none⟩) = some ⟨g7, p, none⟩) := ⟨fun h => if_neg (by omega)⟩
          generalize (fstN L).drop p = N6 at *
          generalize (wtsN L).drop p = N7 at *
          generalize (fstN L).take p = F6 at *
          generalize (wtsN L).take p = F7 at *
          go_upto_region 12 with fail
          go_cut [11, 12] from 19 to 66 (fun v11 v12 wx => ∃ g1 c1 g2 c2, v11 = .slice (some ⟨g1, 0, none⟩) (k - p) c1 ∧ v12 = .slice (some ⟨g2, 0, none⟩) (k - p) c2 ∧ Hf (wd.heap.size ≤ g1 ∧ wd.heap.size ≤ g2) ∧ Hf (∀ j x, N6[j]? = some x → wx.cell? ((⟨g1, 0, none⟩ : Addr).add j) = some x) ∧ Hf (∀ j x, N7[j]? = some x → wx.cell? ((⟨g2, 0, none⟩ : Addr).add j) = some x) ∧ Hf (Below wd.heap.size wd wx))
          case first =>
            go_region_law (first
              | (refine step_copy rfl (.tmp 41) (.tmp 44) 34 rfl 3 i3 (.int .i64 0) 8 Try.underlying34 hi3 hz30 hz31 hz32 rfl _ (by first | rfl | (simp [Act.eval, Act.put]; done) | (simp [Act.eval, Act.put]; rfl)) _ (k - p) _ N6 (by first | rfl | (simp [Act.eval, Act.put]; done) | (simp [Act.eval, Act.put]; rfl)) HN6.out (fun hm => ⟨_, HIF6.out hm, HD6.out _ (by repeat (first | exact Below.refl _ _ | refine bl_alloc ?_ _ | refine bl_drew ?_ | refine bl_drewN _ ?_ | refine below_step ?_ (by assumption)))⟩) HE6.out (by omega) (by omega) ?_; intro q1 d1 w8 hb8 hg8 hc8)
              | (refine step_copy rfl (.tmp 46) (.tmp 49) 110 rfl 26 i2 (.int .u64 0) 8 Try.underlying110 hi2 hz20 hz21 hz22 rfl _ (by first | rfl | (simp [Act.eval, Act.put]; done) | (simp [Act.eval, Act.put]; rfl)) _ (k - p) _ N7 (by first | rfl | (simp [Act.eval, Act.put]; done) | (simp [Act.eval, Act.put]; rfl)) HN7.out (fun hm => ⟨_, HIF7.out hm, HD7.out _ (by repeat (first | exact Below.refl _ _ | refine bl_alloc ?_ _ | refine bl_drew ?_ | refine bl_drewN _ ?_ | refine below_step ?_ (by assumption)))⟩) HE7.out (by omega) (by omega) ?_; intro q2 d2 w9 hb9 hg9 hc9))
            all_goals
              have b8 : Below wd.heap.size wd w8 := by repeat (first | exact Below.refl _ _ | refine bl_alloc ?_ _ | refine bl_drew ?_ | refine bl_drewN _ ?_ | refine below_step ?_ (by assumption))
              have b89 : Below w8.heap.size w8 w9 := by repeat (first | exact Below.refl _ _ | refine bl_alloc ?_ _ | refine bl_drew ?_ | refine bl_drewN _ ?_ | refine below_step ?_ (by assumption))
              have z1 : wd.heap.size ≤ q1 := by
                rcases hg8 with h | h
                · omega
                · exact Nat.le_trans (bl_size (by repeat (first | exact Below.refl _ _ | refine bl_alloc ?_ _ | refine bl_drew ?_ | refine bl_drewN _ ?_ | refine below_step ?_ (by assumption)))) h
              have z2 : wd.heap.size ≤ q2 := by
                rcases hg9 with h | h
                · have := b8.size; omega
                · exact Nat.le_trans (bl_size (by repeat (first | exact Below.refl _ _ | refine bl_alloc ?_ _ | refine bl_drew ?_ | refine bl_drewN _ ?_ | refine below_step ?_ (by assumption)))) h
              have HZ12 := Hf.mk (And.intro z1 z2)
              have HC1 : Hf (∀ j x, N6[j]? = some x → w9.cell? ((⟨q1, 0, none⟩ : Addr).add j) = some x) := ⟨fun j x hx => cell_below b89 (hc8 j x hx)⟩
              have HC2 := Hf.mk hc9
              have HB9 := Hf.mk (below_step b8 b89)
              clear b8 b89 z1 z2 hc8 hc9 hg8 hg9 hb8 hb9
              go_wp2_with fail
              all_goals
                (try (have hce6 : c6 = p := (by assumption); subst hce6))
                (try (have hce7 : c7 = p := (by assumption); subst hce7))
                (try (have hce8 : c7 = c6 := (by assumption); subst hce8))
                go_meet
                case rel => exact ⟨q1, d1, q2, d2, rfl, rfl, HZ12, HC1, HC2, HB9⟩
          case rest =>
            obtain ⟨q1, d1, q2, d2, rfl, rfl, HZ12, HC1, HC2, HB9⟩ := hcut
            have HQ3 : Hf (some q2 ≠ (Value.slice (some ⟨g6, 0, none⟩) p c6).ownBlock) := ⟨fun h => by have := (HT6.out wd (Below.refl _ _)).lt q2 h.symm; have := HZ12.out.2; omega⟩
            have hpc6' : (p : Int) ≤ (c6 : Int) := by omega
            have hpc7' : (p : Int) ≤ (c7 : Int) := by omega
            have HA6 := Hf.mk (HT6.out wc HB9.out)
            have HA7 := Hf.mk (HT7.out wc HB9.out)
            have HQ1 : Hf (some q1 ≠ (Value.slice (some ⟨g6, 0, none⟩) p c6).ownBlock) := ⟨fun h => by have := (HT6.out wd (Below.refl _ _)).lt q1 h.symm; have := HZ12.out.1; omega⟩
            have HQ2 : Hf (some q2 ≠ (Value.slice (some ⟨g7, 0, none⟩) p c7).ownBlock) := ⟨fun h => by have := (HT7.out wd (Below.refl _ _)).lt q2 h.symm; have := HZ12.out.2; omega⟩
            have HNE : Hf ((Value.slice (some ⟨g7, 0, none⟩) p c7).ownBlock = none ∨ (Value.slice (some ⟨g7, 0, none⟩) p c7).ownBlock ≠ (Value.slice (some ⟨g6, 0, none⟩) p c6).ownBlock) := ⟨own_ne HA7.out HA6.out (by decide)⟩
            have HBS : Hf (W.heap.size ≤ wc.heap.size) := ⟨Nat.le_trans HSW.out HB9.out.size⟩
            have HMX : Hf (p + 1 ≤ maxLen) := ⟨by unfold maxLen; omega⟩
            have HMX2 : Hf (p + 1 + (k - p) ≤ maxLen) := ⟨by unfold maxLen; omega⟩
            go_wp2_with (first
              | (at_builtin; refine wpList_append_lies _ rfl (.tmp 53) (.tmp 55) 34 rfl W.heap.size 3 i3 (.int .i64 0) 1 8 Try.underlying34 hi3 hz30 hz31 hz32 rfl (by decide) (Value.slice (some ⟨g6, 0, none⟩) p c6) p F6 rfl (HA6.out.alloc _) ⟨wc.heap.size, 0, none⟩ 1 1 [.int .i64 ((k : Int) + 1)] rfl rfl (new_cells1 _ _ _) (by simp [Value.oneCell']) (by omega) HMX.out (by omega) (by have := HBS.out; simp; omega) _ rfl ?_; intro ga ca wa hown1 hgrow1 hat1 hlt1; have HOA := Hf.mk hown1; have HGA := Hf.mk ((World.grownBy_alloc wc _ _).trans hgrow1); have HAT := lies_at hat1; have HCA : Hf (∀ j x, N6[j]? = some x → wa.cell? ((⟨q1, 0, none⟩ : Addr).add j) = some x) := ⟨fun j x hx => HGA.out.cell (HC1.out j x hx) (by rw [Addr.add_lit]; exact HQ1.out)⟩; clear hown1 hgrow1 hat1 hlt1)
              | (at_builtin; refine wpList_append_own_at _ rfl (.tmp 56) (.tmp 57) 34 rfl W.heap.size 3 i3 (.int .i64 0) 1 8 Try.underlying34 hi3 hz30 hz31 hz32 rfl (by decide) (.slice (some ⟨ga, 0, none⟩) (p + 1) ca) (p + 1) (F6 ++ [.int .i64 ((k : Int) + 1)]) rfl HOA.out ⟨q1, 0, none⟩ (k - p) d1 N6 rfl (by have := HN6.out; omega) HCA.out HE6.out HMX2.out (by omega) (Nat.le_trans HBS.out HGA.out.size) ?_; intro vb wb hown2 hgrow2 _ _; have HOB := Hf.mk hown2; have HGB := Hf.mk (grown_trans HGA.out hgrow2 HAT.out); have HB7 := Hf.mk (HA7.out.kept HGB.out HNE.out); have HBS2 := Hf.mk (Nat.le_trans HBS.out HGB.out.size); have HCB : Hf (∀ j x, N7[j]? = some x → ((Value.slice (some ⟨g6, 0, none⟩) p c6).ownBlock = none ∨ some q2 ≠ (Value.slice (some ⟨g6, 0, none⟩) p c6).ownBlock) → wb.cell? ((⟨q2, 0, none⟩ : Addr).add j) = some x) := ⟨fun j x hx hq => HGB.out.cell (HC2.out j x hx) (by rw [Addr.add_lit]; rcases hq with h | h; rw [h]; simp; exact h)⟩; have HNE2 : Hf (vb.ownBlock = none ∨ vb.ownBlock ≠ (Value.slice (some ⟨g7, 0, none⟩) p c7).ownBlock) := ⟨own_ne HOB.out HB7.out (by decide)⟩; clear hown2 hgrow2)
              | (at_builtin; refine wpList_append_lies _ rfl (.tmp 61) (.tmp 63) 110 rfl W.heap.size 26 i2 (.int .u64 0) 1 8 Try.underlying110 hi2 hz20 hz21 hz22 rfl (by decide) (Value.slice (some ⟨g7, 0, none⟩) p c7) p F7 rfl (HB7.out.alloc _) ⟨wb.heap.size, 0, none⟩ 1 1 [.int .u64 (wt : Nat)] rfl rfl (new_cells1 _ _ _) (by simp [Value.oneCell']) (by omega) HMX.out (by omega) (by have := HBS2.out; simp; omega) _ rfl ?_; intro ge ce we hown3 hgrow3 hat3 hlt3; have HOE := Hf.mk hown3; have HGE := Hf.mk ((World.grownBy_alloc wb _ _).trans hgrow3); have HAT3 := lies_at hat3; have HCE : Hf (∀ j x, N7[j]? = some x → we.cell? ((⟨q2, 0, none⟩ : Addr).add j) = some x) := ⟨fun j x hx => HGE.out.cell (HCB.out j x hx (.inr HQ3.out)) (by rw [Addr.add_lit]; exact HQ2.out)⟩; clear hown3 hgrow3 hat3 hlt3)
              | (at_builtin; refine wpList_append_own_at _ rfl (.tmp 64) (.tmp 65) 110 rfl W.heap.size 26 i2 (.int .u64 0) 1 8 Try.underlying110 hi2 hz20 hz21 hz22 rfl (by decide) (.slice (some ⟨ge, 0, none⟩) (p + 1) ce) (p + 1) (F7 ++ [.int .u64 (wt : Nat)]) rfl HOE.out ⟨q2, 0, none⟩ (k - p) d2 N7 rfl (by have := HN7.out; omega) HCE.out HE7.out HMX2.out (by omega) (Nat.le_trans HBS2.out HGE.out.size) ?_; intro vf wf hown4 hgrow4 _ _; have HOF := Hf.mk hown4; have HGF := Hf.mk (grown_trans HGE.out hgrow4 HAT3.out); have HOB2 := Hf.mk (HOB.out.kept HGF.out HNE2.out); clear hown4 hgrow4))
            go_roundw
            case rel =>
              refine ⟨k + 1, by omega, by go_num, ⟨?_⟩, ⟨?_⟩, fun h => absurd h (by omega), ⟨?_⟩⟩
              · have := HOB2.out
                rw [HF6.out, show p + 1 + (k - p) = k + 1 by omega] at this
                exact this
              · have := HOF.out
                rw [HF7.out, show p + 1 + (k - p) = k + 1 by omega] at this
                exact this
              · exact ((below_step HBR1.out HB9.out).grown HGB.out HBS.out (fun r hr => (HT6.out wd (Below.refl _ _)).lt r hr |>.1)).grown HGF.out HBS2.out (fun r hr => (HT7.out wd (Below.refl _ _)).lt r hr |>.1)
            case measure => simp [intOf]; omega
    · obtain rfl : k = n := by omega
      obtain ⟨g, cap, rfl⟩ := Go.Joins.ownsRow_form HO6.out (by omega)
      go_wp2
      go_ret2
      exact ⟨g, cap, rfl, by rw [← fstN_ord]; exact Go.Joins.ownsRow_le HO6.out HBL.out.size, below_step HBL.out HBR.out⟩
end
section
open Go.RowKit

theorem fineR_any (n c : Int) (w : World) : Calls Try.prog 67 #[.int .i64 n, .int .i64 c] w fun e w' => e = .returned (.bool (decide (1 ≤ n ∧ n ≤ 64 ∧ 1 ≤ c ∧ c ≤ n))) ∧ w' = w := by
  go_enter Try.func67, Try.ntmps67
  by_cases h1 : 1 ≤ n
  · by_cases h2 : n ≤ 64
    · by_cases h3 : 1 ≤ c
      · by_cases h4 : c ≤ n
        · rw [decide_eq_true (show 1 ≤ n ∧ n ≤ 64 ∧ 1 ≤ c ∧ c ≤ n from ⟨h1, h2, h3, h4⟩)]
          go_wp2
          go_ret
          exact ⟨rfl, rfl⟩
        · rw [decide_eq_false (fun h : 1 ≤ n ∧ n ≤ 64 ∧ 1 ≤ c ∧ c ≤ n => h4 h.2.2.2)]
          go_wp2
          go_ret
          exact ⟨rfl, rfl⟩
      · rw [decide_eq_false (fun h : 1 ≤ n ∧ n ≤ 64 ∧ 1 ≤ c ∧ c ≤ n => h3 h.2.2.1)]
        go_wp2
        go_ret
        exact ⟨rfl, rfl⟩
    · rw [decide_eq_false (fun h : 1 ≤ n ∧ n ≤ 64 ∧ 1 ≤ c ∧ c ≤ n => h2 h.2.1)]
      go_wp2
      go_ret
      exact ⟨rfl, rfl⟩
  · rw [decide_eq_false (fun h : 1 ≤ n ∧ n ≤ 64 ∧ 1 ≤ c ∧ c ≤ n => h1 h.1)]
    go_wp2
    go_ret
    exact ⟨rfl, rfl⟩
set_option maxHeartbeats 800000 in
theorem amongR_any (a : Option Addr) (l : List Int) (c : Nat) (x : Int) (w : World) (h : RdI w a l) (hl : l.length ≤ 9223372036854775807) :
    Calls Try.prog 68 #[.slice a l.length c, .int .i64 x] w fun e w' => e = .returned (.bool (decide (x ∈ l))) ∧ w' = w := by
  have Hr := Hf.mk h
  clear h
  go_enter Try.func68, Try.ntmps68
  go_wp2
  go_loop [5] (fun i => ∃ k : Nat, k ≤ l.length ∧ i = .int .i64 k ∧ Hf (∀ j, j < k → l.getD j 0 ≠ x)) (fun i => l.length - (intOf i).toNat)
  case atStart => exact ⟨0, by omega, rfl, ⟨fun j hj => absurd hj (Nat.not_lt_zero j)⟩⟩
  case round =>
    obtain ⟨k, hk, rfl, HN⟩ := hrel
    by_cases hgo : k < l.length
    · obtain ⟨b, off, rfl, hb, hc⟩ := Hr.out.form (by omega)
      have q0 := hc k hgo
      have hgo2 : (k : Int) < (l.length : Int) := by omega
      by_cases hx : l.getD k 0 = x
      · have HM : Hf (x ∈ l) := ⟨by
          rw [← hx]
          rw [List.getD_eq_getElem?_getD, List.getElem?_eq_getElem hgo]
          exact List.getElem_mem hgo⟩
        rw [hx] at q0
        clear hc hx
        go_wp2
        go_ret
        exact ⟨by rw [decide_eq_true HM.out]; rfl, rfl⟩
      · have hx' : ¬ x = l.getD k 0 := fun e => hx e.symm
        have HN2 : Hf (∀ j, j < k + 1 → l.getD j 0 ≠ x) := ⟨fun j hj => by
          by_cases e : j = k
          · subst e; exact hx
          · exact HN.out j (by omega)⟩
        obtain ⟨y, hy⟩ : ∃ y, l.getD k 0 = y := ⟨_, rfl⟩
        rw [hy] at q0 hx'
        clear hc hx hy
        go_wp2
        go_round
        case rel => exact ⟨k + 1, by omega, by go_num, HN2⟩
        case measure => simp [intOf]; omega
    · obtain rfl : k = l.length := by omega
      have HM : Hf (¬ x ∈ l) := ⟨fun hm => by
        obtain ⟨j, hj, e⟩ := List.getElem_of_mem hm
        exact HN.out j hj (by rw [List.getD_eq_getElem?_getD, List.getElem?_eq_getElem hj]; exact e)⟩
      go_wp2
      go_ret
      exact ⟨by rw [decide_eq_false HM.out]; rfl, rfl⟩
set_option maxRecDepth 100000 in
theorem homeR_bad (id : List Nat) (n c x : Int) (w : World) (hl : id.length = 32) (hn : ¬ (1 ≤ n ∧ n ≤ 64 ∧ 1 ≤ c ∧ c ≤ n)) :
    Calls Try.prog 31 #[.agg (cellsOf id).toArray, .int .i64 n, .int .i64 c, .int .i64 x] w fun e w' => e = .returned (.bool false) ∧ Below w.heap.size w w' := by
  generalize (cellsOf id).toArray = zs
  have HB : Hf (Below w.heap.size w (w.alloc (.cells zs 23))) := ⟨(Below.refl _ _).alloc (Nat.le_refl _) _⟩
  have HF := Hf.mk (fun u => fineR_any n c u)
  rw [decide_eq_false hn] at HF
  clear hn
  go_enter Try.func31, Try.ntmps31
  go_wp2_with (go_at_call 67; refine (HF.out _).mono ?_; rintro e w' ⟨rfl, rfl⟩)
  go_ret
  exact ⟨rfl, HB.out⟩
set_option maxRecDepth 100000 in
theorem homeR_fine (id : List Nat) (n c : Nat) (x : Int) (w : World) (hl : id.length = 32) (hb : ∀ c ∈ id, c < 256) (hn : 1 ≤ n) (hn2 : n ≤ 64) (hc : 1 ≤ c) (hc2 : c ≤ n) :
    Calls Try.prog 31 #[.agg (cellsOf id).toArray, .int .i64 n, .int .i64 c, .int .i64 x] w fun e w' => e = .returned (.bool (decide (x ∈ (ordI id n).take c))) ∧ Below w.heap.size w w' := by
  have HF := Hf.mk (fun u => fineR_any (n : Int) (c : Int) u)
  rw [decide_eq_true (show (1 : Int) ≤ n ∧ (n : Int) ≤ 64 ∧ (1 : Int) ≤ c ∧ (c : Int) ≤ n from ⟨by omega, by omega, by omega, by omega⟩)] at HF
  have HO := Hf.mk (fun u => orderR_any id n u hl hb hn hn2)
  have HX := Hf.mk (fun (u : World) (base g cap : Nat) (h : u.ownsRow base 3 1 (.slice (some ⟨g, 0, none⟩) n cap) n (intsN (ordL id n))) (c' : Nat) => amongR_any (some ⟨g, 0, none⟩) ((ordI id n).take c) c' x u ((rdI_own h).take c) (by rw [List.length_take, ordI_len]; omega))
  have hlen : ((ordI id n).take c).length = c := by rw [List.length_take, ordI_len]; omega
  rw [hlen] at HX
  have hz : (cellsOf id).toArray.size = 32 := by rw [List.size_toArray, cellsOf_length, hl]
  have h1 := heap_alloc_new w (.cells (cellsOf id).toArray 23)
  have HB : Hf (Below w.heap.size w (w.alloc (.cells (cellsOf id).toArray 23))) := ⟨(Below.refl _ _).alloc (Nat.le_refl _) _⟩
  generalize (cellsOf id).toArray = zs at *
  generalize decide (x ∈ (ordI id n).take c) = r at *
  have H1 := Hf.mk h1
  have HZ := Hf.mk hz
  have hc2' : (c : Int) ≤ (n : Int) := by omega
  clear h1 hz hl hb hlen
  have HCP : Hf (∀ (u : World) (base g cap : Nat) (xs : List Value), u.ownsRow base 3 1 (.slice (some ⟨g, 0, none⟩) n cap) n xs → n ≤ cap) := ⟨fun u base g cap xs h => by
    rcases h.2 with ⟨h0, _⟩ | ⟨g', cap', cur, hv, _, _, hh, _⟩
    · cases h0
    · cases hv; exact hh⟩
  go_enter Try.func31, Try.ntmps31
  go_wp2_with (first
    | (go_at_call 67; (with_reducible refine (HF.out _).mono ?_); rintro e w' ⟨rfl, rfl⟩)
    | (with_reducible refine wpList_load_row rfl 23 _ rfl w.heap.size rfl 23 zs (0, 0) _ H1.out Try.underlying23 rfl (size23.trans (by rw [HZ.out])) ?_)
    | (go_at_call 25; go_loud ((with_reducible refine (HO.out _).mono ?_); rintro e w1 ⟨g, cap, rfl, hown, hb1⟩; have HB1 := Hf.mk hb1; have HX1 := Hf.mk (HX.out _ _ _ _ hown cap); have hcap := HCP.out _ _ _ _ _ hown; have hcap2 : (c : Int) ≤ (cap : Int) := (by omega); clear hb1 hown))
    | (go_at_call 68; (with_reducible refine HX1.out.mono ?_); rintro e w' ⟨rfl, rfl⟩))
  go_ret
  exact ⟨rfl, below_step HB.out HB1.out⟩
theorem grown_undrew {a b : World} {r : Option Nat} (h : a.drew.grownBy b r) : a.grownBy b r := ⟨h.os, h.tape, h.output, h.size, h.block⟩
theorem liveOf_drop {l live : List Int} {q : Nat} (hq : q < l.length) : liveOf (l.drop q) live = if l.getD q 0 ∈ live then l.getD q 0 :: liveOf (l.drop (q + 1)) live else liveOf (l.drop (q + 1)) live := by
  rw [drop_getI hq]
  unfold liveOf
  rw [List.filter_cons]
  by_cases h : l.getD q 0 ∈ live
  · rw [if_pos h, if_pos (by simpa using h)]
  · rw [if_neg h, if_neg (by simpa using h)]
theorem liveOf_end {l live : List Int} {q : Nat} (hq : l.length ≤ q) : liveOf (l.drop q) live = [] := by
  rw [List.drop_eq_nil_of_le hq]
  rfl
set_option maxRecDepth 100000 in
theorem placeR_bad (id : List Nat) (n c : Int) (A : Option Addr) (m k : Nat) (w : World) (hl : id.length = 32) (hn : ¬ (1 ≤ n ∧ n ≤ 64 ∧ 1 ≤ c ∧ c ≤ n)) :
    Calls Try.prog 27 #[.agg (cellsOf id).toArray, .int .i64 n, .int .i64 c, .slice A m k] w fun e w' => e = .returned (.tuple #[.slice none 0 0, .int .i64 2]) ∧ Below w.heap.size w w' := by
  generalize (cellsOf id).toArray = zs
  have HB : Hf (Below w.heap.size w (w.alloc (.cells zs 23))) := ⟨(Below.refl _ _).alloc (Nat.le_refl _) _⟩
  have HF := Hf.mk (fun u => fineR_any n c u)
  rw [decide_eq_false hn] at HF
  clear hn
  go_enter Try.func27, Try.ntmps27
  go_wp2_with (go_at_call 67; refine (HF.out _).mono ?_; rintro e w' ⟨rfl, rfl⟩)
  go_ret2
  exact ⟨rfl, HB.out⟩
set_option maxHeartbeats 2000000 in
set_option maxRecDepth 100000 in
theorem placeR_any (id : List Nat) (n c : Nat) (live : List Int) (A : Option Addr) (lc : Nat) (w : World) (hl : id.length = 32) (hb : ∀ c ∈ id, c < 256) (hn : 1 ≤ n) (hn2 : n ≤ 64) (hc : 1 ≤ c) (hc2 : c ≤ n) (hr : RdI w A live) (hll : live.length ≤ 9223372036854775807) :
    Calls Try.prog 27 #[.agg (cellsOf id).toArray, .int .i64 n, .int .i64 c, .slice A live.length lc] w fun e w' => ∃ v, e = .returned (.tuple #[v, .int .i64 0]) ∧ w'.ownsRow w.heap.size 52 2 v (placeS id n c live).length (flatS (placeS id n c live)) ∧ Below w.heap.size w w' := by
  have HF := Hf.mk (fun u => fineR_any (n : Int) (c : Int) u)
  rw [decide_eq_true (show (1 : Int) ≤ n ∧ (n : Int) ≤ 64 ∧ (1 : Int) ≤ c ∧ (c : Int) ≤ n from ⟨by omega, by omega, by omega, by omega⟩)] at HF
  have HO := Hf.mk (fun u => orderR_any id n u hl hb hn hn2)
  have hz : (cellsOf id).toArray.size = 32 := by rw [List.size_toArray, cellsOf_length, hl]
  have h1 := heap_alloc_new w (.cells (cellsOf id).toArray 23)
  have HB : Hf (Below w.heap.size w (w.alloc (.cells (cellsOf id).toArray 23))) := ⟨(Below.refl _ _).alloc (Nat.le_refl _) _⟩
  have HR := Hf.mk (hr.below HB.out)
  generalize (cellsOf id).toArray = zs at *
  have H1 := Hf.mk h1
  have HZ := Hf.mk hz
  have hc2' : (c : Int) ≤ (n : Int) := by omega
  have HLL := Hf.mk hll
  clear h1 hz hl hb hr hll
  go_enter Try.func27, Try.ntmps27
  go_upto_region 1 with fail
  generalize w.alloc (.cells zs 23) = W at *
  go_upto_region 4 with (first
    | (go_at_call 67; (with_reducible refine (HF.out _).mono ?_); rintro e w' ⟨rfl, rfl⟩)
    | (with_reducible refine wpList_load_row rfl 23 _ rfl w.heap.size rfl 23 zs (0, 0) _ H1.out Try.underlying23 rfl (size23.trans (by rw [HZ.out])) ?_)
    | (go_at_call 25; (with_reducible refine (HO.out _).mono ?_); rintro e w1 ⟨g, cap, rfl, hown, hb1⟩; have HB1 := Hf.mk hb1; have HOW := Hf.mk hown; have hcap := own_cap hown; clear hb1 hown))
  have hRO := rdI_own HOW.out
  have HRO : Hf (RdI w1 (some ⟨g, 0, none⟩) (ordI id n)) := ⟨hRO⟩
  have HRL := Hf.mk (HR.out.below HB1.out)
  have HBW := Hf.mk (below_step HB.out HB1.out)
  have HOL : Hf ((ordI id n).length = n) := ⟨ordI_len id n⟩
  have HPS : Hf (placeS id n c live = placeL live ((ordI id n).take c) (liveOf ((ordI id n).drop c) live)) := ⟨rfl⟩
  have HTK : Hf (∀ k, k < c → ((ordI id n).take c).drop k = (ordI id n).getD k 0 :: ((ordI id n).take c).drop (k + 1)) := ⟨fun k hk => by
    have h := drop_getI (l := (ordI id n).take c) (k := k) (by rw [List.length_take, ordI_len]; omega)
    rwa [getD_takeI hk] at h⟩
  have HTE : Hf (((ordI id n).take c).drop c = []) := ⟨List.drop_eq_nil_of_le (by rw [List.length_take]; omega)⟩
  obtain ⟨PS, hPS⟩ : ∃ PS, placeS id n c live = PS := ⟨_, rfl⟩
  rw [hPS] at HPS
  have HPZ := Hf.mk hPS
  clear hPS
  have HLV : Hf (∀ q, q < n → liveOf ((ordI id n).drop q) live = if (ordI id n).getD q 0 ∈ live then (ordI id n).getD q 0 :: liveOf ((ordI id n).drop (q + 1)) live else liveOf ((ordI id n).drop (q + 1)) live) := ⟨fun q hq => liveOf_drop (by rw [ordI_len]; exact hq)⟩
  have HLN : Hf (liveOf ((ordI id n).drop n) live = []) := ⟨liveOf_end (by rw [ordI_len]; exact Nat.le_refl _)⟩
  generalize ordI id n = O at *
  have HRC : Hf (∀ u, Below w1.heap.size w1 u → ∀ j, j < n → u.cell? ⟨g, j, none⟩ = some (.int .i64 (O.getD j 0))) := ⟨fun u hu j hj => by
    obtain ⟨_, _, qq, _, hcell⟩ := (HRO.out.below hu).form (by rw [HOL.out]; omega)
    cases qq
    have := hcell j (by rw [HOL.out]; exact hj)
    rwa [Nat.zero_add] at this⟩
  clear hRO
  obtain ⟨i1, hi1, hz10, hz11, hz12⟩ := info_parts info52
  go_wp2
  go_loopw [12, 13, 14] (fun v12 v13 i wr => ∃ (k q : Nat) (S : List (Int × Int)), k ≤ c ∧ i = .int .i64 k ∧ v13 = .int .i64 q ∧ c ≤ q ∧ q ≤ n ∧ Hf (wr.ownsRow w1.heap.size 52 2 v12 S.length (flatS S)) ∧ S.length ≤ k ∧ Hf (PS = S ++ placeL live ((O.take c).drop k) (liveOf (O.drop q) live)) ∧ Hf (Below w1.heap.size w1 wr)) (fun _ _ i _ => c - (intOf i).toNat)
  case atStart => exact ⟨0, c, [], by omega, rfl, rfl, Nat.le_refl _, hc2, ⟨World.ownsRow_nil _ _ _ _⟩, Nat.le_refl _, ⟨by rw [HPS.out]; rfl⟩, ⟨Below.refl _ _⟩⟩
  case round =>
    obtain ⟨k, q, S, hk, rfl, rfl, hcq, hqn, HO4, hS, HP, HB4⟩ := hrel
    by_cases hgo : k < c
    · have hgo2 : (k : Int) < (c : Int) := by omega
      obtain ⟨_, _, qq, hbl, hcell⟩ := (HRO.out.below HB4.out).form (by rw [HOL.out]; omega)
      cases qq
      have q0 := hcell k (by rw [HOL.out]; omega)
      rw [Nat.zero_add] at q0
      have hdr := HTK.out k hgo
      obtain ⟨x, hx⟩ : ∃ x, O.getD k 0 = x := ⟨_, rfl⟩
      rw [hx] at q0 hdr
      have hp := HP.out
      rw [hdr] at hp
      have HCL : Hf (∀ j, j < n → wr.cell? ⟨g, j, none⟩ = some (.int .i64 (O.getD j 0))) := ⟨fun j hj => by
        have := hcell j (by rw [HOL.out]; omega)
        rwa [Nat.zero_add] at this⟩
      have HCN := Hf.mk (amongR_any A live lc x wr (HRL.out.below HB4.out) HLL.out)
      have HCQ := Hf.mk (fun (y : Int) => amongR_any A live lc y wr (HRL.out.below HB4.out) HLL.out)
      have HMX : Hf (S.length + 1 ≤ maxLen) := ⟨by unfold maxLen; omega⟩
      have HSZ := Hf.mk HB4.out.size
      have hkn : (k : Int) < (n : Int) := by omega
      have HRX : Hf (∀ u, Below w1.heap.size w1 u → u.cell? ⟨g, k, none⟩ = some (.int .i64 x)) := ⟨fun u hu => by rw [← hx]; exact HRC.out u hu k (by omega)⟩
      clear hcell hx hdr HP
      by_cases hin : x ∈ live
      · have hp2 : PS = (S ++ [(x, x)]) ++ placeL live ((O.take c).drop (k + 1)) (liveOf (O.drop q) live) := by
          rw [hp, placeL_in hin, List.append_assoc]; rfl
        have HP2 := Hf.mk hp2
        rw [decide_eq_true hin] at HCN
        clear hp hp2 hin
        go_upto_region 10 with (go_at_call 68; (with_reducible refine HCN.out.mono ?_); rintro e w5 ⟨rfl, hw5⟩; have hw5 := hw5.symm; subst hw5)
        go_region_held3 (fun w' => w'.cell? ⟨g, k, none⟩ = some (.int .i64 x)) (first | exact hk4 | go_keep) ((refine step_append_lies _ (by rfl) _ _ _ (by rfl) w1.heap.size 52 i1 (.agg #[.int .i64 0, .int .i64 0]) 2 16 Try.underlying38 hi1 hz10 hz11 hz12 (by rfl) (by decide) _ S.length (flatS S) (by rfl) ((HO4.out.alloc _).drew) ⟨wr.heap.size, 0, none⟩ 1 1 [.int .i64 x, .int .i64 x] (by rfl) (by rfl) (World.news_of_block (cs := #[.int .i64 x, .int .i64 x]) (t := 52) (fr := (0, 0)) (heap_alloc_new wr _)) (by simp [Value.oneCell']) (by omega) HMX.out (by omega) (by have := HSZ.out; simp; omega) (wr.heap.size + 1) (by simp) ?_; intro ga ca w4 hown4 hgrow4 hat4 hlt4; have HO5 := Hf.mk hown4; have HB5 := Hf.mk (HB4.out.trans (below_own (HO4.out.alloc _) (Below.refl wr.heap.size wr) (grown_undrew hgrow4) HSZ.out)); have hk4 := HRX.out _ HB5.out; clear hown4 hgrow4 hat4 hlt4))
        go_wp2
        go_roundw
        case rel => exact ⟨k + 1, q, S ++ [(x, x)], by omega, by go_num, rfl, hcq, hqn, ⟨by rw [List.length_append, flatS_snoc]; exact HO5.out⟩, by rw [List.length_append]; exact Nat.add_le_add_right hS 1, HP2, HB5⟩
        case measure => simp [intOf]; omega
      · rw [decide_eq_false hin] at HCN
        have HP0 := Hf.mk hp
        have HIN := Hf.mk hin
        clear hp hin
        go_wp2_with (go_at_call 68; (with_reducible refine HCN.out.mono ?_); rintro e w5 ⟨rfl, hw5⟩; have hw5 := hw5.symm; subst hw5)
        go_loop [13] (fun i => ∃ q2 : Nat, i = .int .i64 (q2 : Int) ∧ q ≤ q2 ∧ q2 ≤ n ∧ Hf (liveOf (O.drop q) live = liveOf (O.drop q2) live)) (fun i => n - (intOf i).toNat)
        case atStart => exact ⟨q, rfl, Nat.le_refl _, hqn, ⟨rfl⟩⟩
        case round =>
          obtain ⟨q2, rfl, hq2, hq2n, HQ⟩ := hrel
          by_cases hqq : q2 < n
          · have hqq' : (q2 : Int) < (n : Int) := by omega
            have q1 := HCL.out q2 hqq
            have hlv := HLV.out q2 hqq
            have HC2 := Hf.mk (HCQ.out (O.getD q2 0))
            obtain ⟨y, hy⟩ : ∃ y, O.getD q2 0 = y := ⟨_, rfl⟩
            rw [hy] at q1 hlv HC2
            have HRY : Hf (∀ u, Below w1.heap.size w1 u → u.cell? ⟨g, q2, none⟩ = some (.int .i64 y)) := ⟨fun u hu => by rw [← hy]; exact HRC.out u hu q2 hqq⟩
            clear hy
            by_cases hyin : y ∈ live
            · rw [if_pos hyin] at hlv
              rw [decide_eq_true hyin] at HC2
              have hp2 : PS = (S ++ [(y, x)]) ++ placeL live ((O.take c).drop (k + 1)) (liveOf (O.drop (q2 + 1)) live) := by
                rw [HP0.out, HQ.out, hlv, placeL_cons HIN.out, List.append_assoc]; rfl
              have HP2 := Hf.mk hp2
              clear hp2 hlv hyin
              go_upto_region 14 with (go_at_call 68; (with_reducible refine HC2.out.mono ?_); rintro e w5 ⟨rfl, hw5⟩; have hw5 := hw5.symm; subst hw5)
              go_region_held3 (fun w' => w'.cell? ⟨g, q2, none⟩ = some (.int .i64 y) ∧ w'.cell? ⟨g, k, none⟩ = some (.int .i64 x)) (first | exact hk4 | go_keep) ((refine step_append_lies _ (by rfl) _ _ _ (by rfl) w1.heap.size 52 i1 (.agg #[.int .i64 0, .int .i64 0]) 2 16 Try.underlying38 hi1 hz10 hz11 hz12 (by rfl) (by decide) _ S.length (flatS S) (by rfl) ((HO4.out.alloc _).drew) ⟨wr.heap.size, 0, none⟩ 1 1 [.int .i64 y, .int .i64 x] (by rfl) (by rfl) (World.news_of_block (cs := #[.int .i64 y, .int .i64 x]) (t := 52) (fr := (0, 0)) (heap_alloc_new wr _)) (by simp [Value.oneCell']) (by omega) HMX.out (by omega) (by have := HSZ.out; simp; omega) (wr.heap.size + 1) (by simp) ?_; intro ga ca w4 hown4 hgrow4 hat4 hlt4; have HO5 := Hf.mk hown4; have HB5 := Hf.mk (HB4.out.trans (below_own (HO4.out.alloc _) (Below.refl wr.heap.size wr) (grown_undrew hgrow4) HSZ.out)); have hk4 := And.intro (HRY.out _ HB5.out) (HRX.out _ HB5.out); clear hown4 hgrow4 hat4 hlt4))
              go_wp2
              go_roundw
              case rel => exact ⟨k + 1, q2 + 1, S ++ [(y, x)], by omega, by go_num, by go_num, by omega, by omega, ⟨by rw [List.length_append, flatS_snoc]; exact HO5.out⟩, by rw [List.length_append]; exact Nat.add_le_add_right hS 1, HP2, HB5⟩
              case measure => simp [intOf]; omega
            · rw [if_neg hyin] at hlv
              rw [decide_eq_false hyin] at HC2
              have HQ2 : Hf (liveOf (O.drop q) live = liveOf (O.drop (q2 + 1)) live) := ⟨HQ.out.trans hlv⟩
              clear hlv hyin
              go_wp2_with (go_at_call 68; (with_reducible refine HC2.out.mono ?_); rintro e w5 ⟨rfl, hw5⟩; have hw5 := hw5.symm; subst hw5)
              go_round
              case rel => exact ⟨q2 + 1, by go_num, by omega, by omega, HQ2⟩
              case measure => simp [intOf]; omega
          · obtain rfl : q2 = n := by omega
            have hp2 : PS = S ++ placeL live ((O.take c).drop (k + 1)) (liveOf (O.drop q2) live) := by
              rw [HP0.out, HQ.out, HLN.out, placeL_nil HIN.out]
            have HP2 := Hf.mk hp2
            clear hp2
            go_wp2
            go_roundw
            case rel => exact ⟨k + 1, q2, S, by omega, by go_num, rfl, by omega, by omega, HO4, by omega, HP2, HB4⟩
            case measure => simp [intOf]; omega
    · obtain rfl : k = c := by omega
      have hp := HP.out
      rw [HTE.out] at hp
      have hp2 : PS = S := by rw [hp]; exact List.append_nil _
      have HP2 := Hf.mk hp2
      clear hp hp2 HP
      go_wp2
      go_ret2
      exact ⟨_, rfl, by rw [HPZ.out, HP2.out]; exact Go.Joins.ownsRow_le HO4.out HBW.out.size, below_step HBW.out HB4.out⟩
end
section
open Go.RowKit Go.Proofs.YtaaepadhapfkoaaW.PrintWords Go.Proofs.YtaaepadhapfkoaaW.PrintMore

/-- every cell of a value's block is such a one -/
def Full (G : Value → Prop) (e : TypeId) (w : World) (v : Value) : Prop := ∀ k, v.ownBlock = some k → ∃ cur, w.heap[k]? = some (.cells cur e (0, 0)) ∧ ∀ u ∈ cur.toList, G u
theorem Full.nil (G : Value → Prop) (e : TypeId) (w : World) (n c : Nat) : Full G e w (.slice none n c) := fun k h => by simp [Value.ownBlock] at h
theorem Full.keep {G : Value → Prop} {e : TypeId} {w w' : World} {v : Value} (h : Full G e w v) (hk : ∀ k, v.ownBlock = some k → w'.heap[k]? = w.heap[k]?) : Full G e w' v := fun k hv => by
  obtain ⟨cur, h1, h2⟩ := h k hv
  exact ⟨cur, (hk k hv).trans h1, h2⟩
theorem Full.below {G : Value → Prop} {e : TypeId} {w w' : World} {v : Value} (h : Full G e w v) (hb : Below w.heap.size w w') : Full G e w' v := fun k hv => by
  obtain ⟨cur, h1, h2⟩ := h k hv
  exact ⟨cur, (hb.block k (Array.getElem?_eq_some_iff.1 h1).1).trans h1, h2⟩
theorem zeroCells_mem {z : Array Value} (n : Nat) {G : Value → Prop} (hz : ∀ u ∈ z.toList, G u) (hs : 0 < z.size) : ∀ u ∈ (Builtin.zeroCells z n).toList, G u := by
  intro u hu
  unfold Builtin.zeroCells at hu
  simp only [Array.toList_map, List.mem_map] at hu
  obtain ⟨i, _, rfl⟩ := hu
  have hlt : i % z.size < z.size := Nat.mod_lt _ hs
  rw [getElem!_pos z (i % z.size) hlt]
  exact hz _ (by simp)
section
variable {P : Program}
theorem run_append_full (w : World) (G : Value → Prop) (base : Nat) (t ty e : TypeId) (i : TypeInfo) (z : Value) (size bytes : Nat) (ht : P.underlying t = some (.slice e)) (hi : P.info? e = some i) (hz : i.zero = some z)
    (hsize : i.size = size) (hby : i.bytes = bytes) (hzs : z.cells.size = size) (hsz : 0 < size)
    (v : Value) (n : Nat) (xs : List Value) (hown : w.ownsRow base e size v n xs) (hfull : Full G e w v) (hzG : ∀ u ∈ z.cells.toList, G u)
    (a : Addr) (m c : Nat) (news : List Value) (hl : news.length = m * size) (hnews : ∀ j u, news[j]? = some u → w.cell? (a.add j) = some u) (h1 : ∀ u ∈ news, u.oneCell' = true) (hnG : ∀ u ∈ news, G u)
    (h63 : n + m ≤ maxLen) (hbytes : (n + m) * bytes ≤ 140737488355328) (hbase : base ≤ w.heap.size) :
    ∃ v' w', (Builtin.append_ #[t, t] ty #[v, .slice (some a) m c]).run P w = .ok v' w' ∧ w'.ownsRow base e size v' (n + m) (xs ++ news) ∧ w.grownBy w' v.ownBlock ∧
      (v'.ownBlock = v.ownBlock ∨ v'.ownBlock = some w.heap.size) ∧ Full G e w' v' := by
  obtain ⟨v', w', hr, ho, hg, _, hat⟩ := run_append_own_at (P := P) w base t ty e i z size bytes ht hi hz hsize hby hzs hsz v n xs hown a m c news hl hnews h1 h63 hbytes hbase
  refine ⟨v', w', hr, ho, hg, hat, ?_⟩
  subst hsize
  subst hby
  have hsmall : n + m ≤ 9223372036854775807 := by simp only [maxLen] at h63; omega
  have grown : ∀ (os : List Value) (q : Nat) (A : Nat) (c : Nat), (∀ u ∈ os, G u) → Full G e (w.drew.alloc (.cells (os.toArray ++ news.toArray ++ Builtin.zeroCells z.cells q) e)) (.slice (some ⟨w.heap.size, 0, none⟩) A c) := by
    intro os q A c hos k hk
    obtain rfl : w.heap.size = k := by simpa [Value.ownBlock] using hk
    refine ⟨_, heap_alloc_new w.drew _, fun u hu => ?_⟩
    simp only [Array.toList_append, List.append_assoc, List.mem_append] at hu
    rcases hu with hu | hu | hu
    · exact hos u (by simpa using hu)
    · exact hnG u (by simpa using hu)
    · exact zeroCells_mem _ hzG (by rw [hzs]; exact hsz) u hu
  rcases hown.2 with ⟨rfl, rfl⟩ | ⟨g, cap, cur, rfl, hbg, hgg, hnc, hcm, hcs, htake⟩
  · by_cases hm : m = 0
    · have hn : news = [] := List.eq_nil_of_length_eq_zero (by rw [hl, hm]; simp)
      subst hm
      have hr2 : (Builtin.append_ #[t, t] ty #[.slice none 0 0, .slice (some a) 0 c]).run P w = .ok (.slice none 0 0) w := by
        simp [Builtin.append_, run_underlying ht, sizeOf, typeInfo, hi, Builtin.lenOf, Builtin.firstCells, loadCells, loadCellsFrom]
      rw [hr2] at hr
      injection hr with e1 e2
      subst e1
      exact Full.nil _ _ _ _ _
    · have hr2 := run_append_nil (P := P) w t ty e i z ht hi hz a m c news hl hnews (by omega) (by omega) (by have hb := hbytes; simp only [Nat.zero_add] at hb; omega)
      rw [hr2] at hr
      injection hr with e1 e2
      subst e1
      subst e2
      have := grown [] (grownCap w m 0 e - m) m (grownCap w m 0 e) (by simp)
      simpa using this
  · by_cases hroom : n + m ≤ cap
    · have hfit : n * i.size + news.length ≤ cur.size := by rw [hl, hcs, ← Nat.add_mul]; exact Nat.mul_le_mul_right _ hroom
      have hr2 := run_append_room (P := P) w t ty e i ht hi g n cap cur hgg a m c news hl hnews h1 hroom hfit
      rw [hr2] at hr
      injection hr with e1 e2
      subst e1
      subst e2
      intro k hk
      obtain rfl : g = k := by simpa [Value.ownBlock] using hk
      obtain ⟨cur', h2, h3⟩ := hfull g (by simp [Value.ownBlock])
      rw [hgg] at h2
      injection h2 with h2
      injection h2 with h2 _ _
      subst h2
      refine ⟨_, setRow_heap w g cur _ e _ hgg, fun u hu => ?_⟩
      simp only [List.append_assoc, List.mem_append] at hu
      rcases hu with hu | hu | hu
      · exact h3 u (List.mem_of_mem_take hu)
      · exact hnG u hu
      · exact h3 u (List.mem_of_mem_drop hu)
    · have holds : ∀ j u, xs[j]? = some u → w.cell? ((⟨g, 0, none⟩ : Addr).add j) = some u := hown.cells (g := g) rfl
      have hr2 := run_append_grow (P := P) w t ty e i z ht hi hz ⟨g, 0, none⟩ n cap xs hown.1 holds a m c news hl hnews (by omega) (by omega) (growslice_fits (by omega) hbytes)
      rw [hr2] at hr
      injection hr with e1 e2
      subst e1
      subst e2
      refine grown xs _ _ _ (fun u hu => ?_)
      obtain ⟨cur', h2, h3⟩ := hfull g (by simp [Value.ownBlock])
      rw [hgg] at h2
      injection h2 with h2
      injection h2 with h2 _ _
      subst h2
      rw [← htake] at hu
      exact h3 u (List.mem_of_mem_take hu)
theorem wpList_append_full {ops : Array Oper} {rest : List Oper} {o : Oper} {a : Act} {Q : Exit → Act → World → Prop} (w : World) (G : Value → Prop) (hgd : o.guard = none) (s x : Operand) (t : TypeId)
    (ho : o.op = .call { callee := .builtin .append, args := #[s, x], argTypes := #[t, t] })
    (base : Nat) (e : TypeId) (i : TypeInfo) (z : Value) (size bytes : Nat) (ht : P.underlying t = some (.slice e)) (hi : P.info? e = some i) (hz : i.zero = some z)
    (hsize : i.size = size) (hby : i.bytes = bytes) (hzs : z.cells.size = size) (hsz : 0 < size)
    (v : Value) (n : Nat) (xs : List Value) (hs : a.eval s = v) (hown : w.ownsRow base e size v n xs) (hfull : Full G e w v) (hzG : ∀ u ∈ z.cells.toList, G u)
    (ad : Addr) (m c : Nat) (news : List Value) (hx : a.eval x = .slice (some ad) m c) (hl : news.length = m * size) (hnews : ∀ j u, news[j]? = some u → w.cell? (ad.add j) = some u) (h1 : ∀ u ∈ news, u.oneCell' = true) (hnG : ∀ u ∈ news, G u)
    (h63 : n + m ≤ maxLen) (hbytes : (n + m) * bytes ≤ 140737488355328) (hbase : base ≤ w.heap.size)
    (h : ∀ v' w', w'.ownsRow base e size v' (n + m) (xs ++ news) → w.grownBy w' v.ownBlock → (v'.ownBlock = v.ownBlock ∨ v'.ownBlock = some w.heap.size) → Full G e w' v' → wpList P ops Q rest (a.put o.dst v') w') : wpList P ops Q (o :: rest) a w := by
  obtain ⟨v', w', hr, h2, h3, h4, h5⟩ := run_append_full (P := P) w G base t o.type e i z size bytes ht hi hz hsize hby hzs hsz v n xs hown hfull hzG ad m c news hl hnews h1 hnG h63 hbytes hbase
  refine Kd.event_run hgd ?_ (h v' w' h2 h3 h4 h5)
  unfold execOp
  simp only [ho, resolve, invoke, builtin, Sem.run_bind, Sem.run_pure, Result.andThen_ok, List.map_toArray, List.map_cons, List.map_nil, hs, hx, hr]
/-- a whole number of a kind -/
def isI (k : IntKind) (u : Value) : Prop := ∃ x, u = .int k x
end
theorem zero_isI : ∀ u ∈ (Value.int .i64 0).cells.toList, isI .i64 u := by
  intro u hu
  have : u = .int .i64 0 := by simpa [Value.cells] using hu
  exact ⟨0, this⟩
theorem one_isI (x : Int) : ∀ u ∈ [Value.int .i64 x], isI .i64 u := by
  intro u hu
  exact ⟨x, List.mem_singleton.1 hu⟩
set_option maxHeartbeats 1000000 in
set_option maxRecDepth 100000 in
theorem order_full (HS : Sorts Try.prog) (id : List Nat) (n : Nat) (w : World) (hl : id.length = 32) (hb : ∀ c ∈ id, c < 256) (hn : 1 ≤ n) (hn2 : n ≤ 64) :
    Calls Try.prog 24 #[.agg (cellsOf id).toArray, .int .i64 n] w fun e w' => ∃ g cap, e = .returned (.tuple #[.slice (some ⟨g, 0, none⟩) n cap, .int .i64 0]) ∧ w'.ownsRow w.heap.size 3 1 (.slice (some ⟨g, 0, none⟩) n cap) n (intsN (ordL id n)) ∧ Full (isI .i64) 3 w' (.slice (some ⟨g, 0, none⟩) n cap) ∧ Below w.heap.size w w' := by
  have HR := Hf.mk (heap_alloc_new w (.cells (cellsOf id).toArray 23))
  have HBL : Hf (Below w.heap.size w (w.alloc (.cells (cellsOf id).toArray 23))) := ⟨(Below.refl _ _).alloc (Nat.le_refl _) _⟩
  have HL := Hf.mk hl
  have HB : Hf (∀ c ∈ id, c < 256) := ⟨hb⟩
  have HSO := Hf.mk HS
  have hsz : (w.alloc (.cells (cellsOf id).toArray 23)).heap.size = w.heap.size + 1 := by simp
  clear hl hb
  have HZ : Hf ((cellsOf id).toArray.size = 32) := ⟨by rw [List.size_toArray, cellsOf_length, HL.out]⟩
  have HCI : Hf (∀ j u, (cellsOf id)[j]? = some u → (cellsOf id).toArray[j]? = some u) := ⟨fun j u h => by rw [List.getElem?_toArray]; exact h⟩
  generalize (cellsOf id).toArray = zs at *
  have hn' : ¬ (n : Int) < 1 := by omega
  have hn2' : ¬ (64 : Int) < (n : Int) := by omega
  go_enter Try.func24, Try.ntmps24
  go_wp2
  generalize w.alloc (.cells zs 23) = W at HR HBL hsz ⊢
  go_loopw [6, 18] (fun v i wr => ∃ k : Nat, k ≤ n ∧ i = .int .i64 k ∧ Hf (wr.ownsRow (w.heap.size + 1) 105 2 v k (flatW (rawW id k))) ∧ Hf (wr.heap[w.heap.size]? = some (.cells zs 23)) ∧ Hf (Below w.heap.size w wr) ∧ w.heap.size + 1 ≤ wr.heap.size) (fun _ i _ => n - (intOf i).toNat)
  case atStart => exact ⟨0, by omega, rfl, ⟨World.ownsRow_nil _ _ _ _⟩, HR, HBL, by omega⟩
  case round =>
    obtain ⟨k, hk, rfl, HO, HR2, HW, hsz2⟩ := hrel
    by_cases hgo : k < n
    · have hgo2 : (k : Int) < (n : Int) := by omega
      have hk64 : k < 64 := by omega
      have hk64' : (k : Int) < 64 := by omega
      obtain ⟨i5, hi5, hz50, hz51, hz52⟩ := info_parts info5
      obtain ⟨i1, hi1, hz10, hz11, hz12⟩ := info_parts info105
      have HLC : Hf ((cellsOf id).length = 32 * 1) := ⟨by rw [cellsOf_length, HL.out]⟩
      have HLT : Hf (w.heap.size < wr.heap.size) := ⟨by omega⟩
      have HOLD : Hf (∀ o : Obj, ∀ b, some (⟨w.heap.size, 0, none⟩ : Addr) = some b → ∀ j u, (cellsOf id)[j]? = some u → (wr.alloc o).cell? (b.add j) = some u) := ⟨fun o b hb j u hu => by
        cases hb
        rw [Addr.add_lit]
        rw [Go.Joins.cell_of_block ((Below.heap_alloc _ _ _ HLT.out).trans HR2.out), Nat.zero_add]
        exact HCI.out j u hu⟩
      have HNEW : Hf (∀ j u, ([Value.int .u8 ((k : Int) + 1)] : List Value)[j]? = some u → (wr.alloc (.cells #[Value.int .u8 ((k : Int) + 1)] 5)).cell? ((⟨wr.heap.size, 0, none⟩ : Addr).add j) = some u) := ⟨fun j u hu => by
        rw [Addr.add_lit, Go.Joins.cell_of_block (heap_alloc_new _ _), Nat.zero_add]
        simpa using hu⟩
      have HB1 : Hf (∀ c ∈ id ++ [k + 1], c < 256) := ⟨fun c hc => by
        rcases List.mem_append.1 hc with h | h
        · exact HB.out c h
        · have := List.mem_singleton.1 h; omega⟩
      have HLEN : Hf ((id ++ [k + 1]).length = 33) := ⟨by rw [List.length_append, HL.out]; rfl⟩
      have HCE : Hf (cellsOf id ++ [Value.int .u8 ((k : Int) + 1)] = cellsOf (id ++ [k + 1])) := ⟨by simp [cellsOf]⟩
      have HB2 := Hf.mk (fun (w' : World) (g c : Nat) (h : w'.ownsRow (wr.alloc (.cells #[Value.int .u8 ((k : Int) + 1)] 5)).heap.size 5 1 (.slice (some ⟨g, 0, none⟩) (32 + 1) c) (32 + 1) (cellsOf id ++ [Value.int .u8 ((k : Int) + 1)])) => given_own HB1.out HLEN.out HCE.out h)
      have HSM := Hf.mk (fun (w' : World) (g c : Nat) (h : Given w' (some ⟨g, 0, none⟩) c (id ++ [k + 1])) => sum_any (some ⟨g, 0, none⟩) c (id ++ [k + 1]) w' h (by rw [HLEN.out]; omega))
      rw [HLEN.out] at HSM
      have HWG := Hf.mk (fun u => weigh_any (Sha.sum (id ++ [k + 1])) u (Sha.sum_len _) (Sha.sum_lt _))
      obtain ⟨wt, hwt⟩ : ∃ x, num ((Sha.sum (id ++ [k + 1])).take 8) = x := ⟨_, rfl⟩
      rw [hwt] at HWG
      have HRW : Hf (flatW (rawW id (k + 1)) = flatW (rawW id k) ++ [.int .i64 ((k : Int) + 1), .int .u64 wt]) := ⟨by rw [rawW_snoc, flatW_snoc]; unfold encW wOf; rw [hwt]; rfl⟩
      generalize (cellsOf (Sha.sum (id ++ [k + 1]))).toArray = zd at HSM HWG
      clear hwt
      have HMX : Hf (k + 1 ≤ maxLen) := ⟨by unfold maxLen; omega⟩
      have tok1 : True := trivial
      go_wp2_with (first
        | (at_builtin; have _t := tok1; refine wpList_append_grows _ rfl (.tmp 24) (.tmp 28) 54 rfl 5 i5 (.int .u8 0) 1 1 Try.underlying54 hi5 hz50 hz51 hz52 rfl (by decide) (some ⟨w.heap.size, 0, none⟩) 32 32 (cellsOf id) rfl (by simp) HLC.out (HOLD.out _) ⟨wr.heap.size, 0, none⟩ 1 1 [.int .u8 ((k : Int) + 1)] rfl rfl HNEW.out (by simp [Value.oneCell']) (by omega) (by unfold maxLen; omega) (by omega) ?_; clear tok1; intro v1 w1 hown1 hgrow1; obtain ⟨g1, cap1, rfl⟩ := Go.Joins.ownsRow_form hown1 (by decide); have HG1 := Hf.mk (HB2.out _ _ _ hown1); have HGR1 := Hf.mk hgrow1; clear hown1 hgrow1)
        | (go_at_call 38; (with_reducible refine (HSM.out _ _ _ HG1.out).mono ?_); rintro e w2 ⟨rfl, hb2⟩; have HB3 := Hf.mk hb2; clear hb2)
        | (go_at_call 15; (with_reducible refine (HWG.out _).mono ?_); rintro e w3 ⟨rfl, hb3⟩; have HB5 := Hf.mk (round_below HGR1.out HB3.out hb3); clear hb3; have HO3 := Hf.mk (owns_below HO.out (below_step HB5.out ((Below.refl _ _).alloc (Nat.le_refl _) (.cells #[Value.int .i64 ((k : Int) + 1), Value.int .u64 (wt : Nat)] 105)))))
        | (at_builtin; refine wpList_append_own _ rfl (.tmp 21) (.tmp 33) 103 rfl (w.heap.size + 1) 105 i1 (.agg #[.int .i64 0, .int .u64 0]) 2 16 Try.underlying103 hi1 hz10 hz11 hz12 rfl (by decide) _ k (flatW (rawW id k)) rfl HO3.out ⟨w3.heap.size, 0, none⟩ 1 1 [.int .i64 ((k : Int) + 1), .int .u64 (wt : Nat)] rfl rfl (new_cells2 _ _ _ _) (by simp [Value.oneCell']) HMX.out (by omega) (by have := HB5.out.size; simp; omega) ?_; intro v4 w4 hown4 hgrow4 _; have HO4 := Hf.mk hown4; have HB6 := Hf.mk (below_own HO3.out HB5.out hgrow4 hsz2); clear hown4 hgrow4))
      go_roundw
      case rel => exact ⟨k + 1, by omega, by go_num, ⟨by rw [HRW.out]; exact HO4.out⟩, ⟨(HB6.out.block _ (Nat.lt_succ_self _)).trans HR2.out⟩, ⟨HW.out.trans (HB6.out.mono (Nat.le_succ _))⟩, Nat.le_trans hsz2 HB6.out.size⟩
      case measure => simp [intOf]; omega
    · obtain rfl : k = n := by omega
      obtain ⟨g, cap, rfl⟩ := Go.Joins.ownsRow_form HO.out (by omega)
      have hs1 := HSO.out g cap (rawW id k) wr (own_holds HO.out) (own_block_lt HO.out) (by rw [rawW_len]; omega)
      rw [rawW_len] at hs1
      have HS1 := Hf.mk hs1
      have HGB : Hf (w.heap.size + 1 ≤ g) := ⟨owns_at HO.out g rfl⟩
      clear hs1
      go_wp2_with (go_at_call 57; (with_reducible refine HS1.out.mono ?_); rintro e w2 ⟨rfl, hh2, hb2, hg2⟩; have HH := Hf.mk hh2; have HB2 : Hf (Below w.heap.size w w2) := ⟨HW.out.trans (hb2.mono (by have := HGB.out; omega))⟩; have HG2 := Hf.mk hg2; clear hh2 hb2 hg2)
      go_loopw [8, 40] (fun v i wr2 => ∃ m : Nat, m ≤ k ∧ i = .int .i64 m ∧ Hf (wr2.ownsRow w2.heap.size 3 1 v m (intsN ((ordL id k).take m))) ∧ Hf (Full (isI .i64) 3 wr2 v) ∧ Hf (Below w2.heap.size w2 wr2)) (fun _ i _ => k - (intOf i).toNat)
      case atStart => exact ⟨0, by omega, rfl, ⟨World.ownsRow_nil _ _ _ _⟩, ⟨Full.nil _ _ _ _ _⟩, ⟨Below.refl _ _⟩⟩
      case round =>
        obtain ⟨m, hm, rfl, HO5, HF5, HW5⟩ := hrel
        by_cases hgo2 : m < k
        · have hgo3 : (m : Int) < (k : Int) := by omega
          have hx := holds_at (holds_below HH.out HG2.out HW5.out) (i := m) (by rw [ordW_len']; exact hgo2)
          obtain ⟨x, hxe⟩ : ∃ x, (ordW id k).getD m (0, 0) = x := ⟨_, rfl⟩
          have HXL : Hf (intsN ((ordL id k).take (m + 1)) = intsN ((ordL id k).take m) ++ [.int .i64 (x.1 : Nat)]) := ⟨by rw [take_snoc (by rw [ordL_len]; exact hgo2), intsN_snoc, ordL_get (by rw [ordW_len]; exact hgo2), hxe]⟩
          rw [show (rawW id k).mergeSort leW = ordW id k from rfl, hxe] at hx
          obtain ⟨c0, c1⟩ := hx
          clear hxe
          obtain ⟨i3, hi3, hz30, hz31, hz32⟩ := info_parts info3
          have HLW : Hf (w2.heap.size ≤ wr.heap.size) := ⟨HW5.out.size⟩
          have HO6 := Hf.mk ((HO5.out.alloc (.cells #[.int .i64 (x.1 : Nat), .int .u64 (x.2 : Nat)] 105)).alloc (.cells #[.int .i64 (x.1 : Nat)] 3))
          have HF6 : Hf (Full (isI .i64) 3 ((wr.alloc (.cells #[.int .i64 (x.1 : Nat), .int .u64 (x.2 : Nat)] 105)).alloc (.cells #[.int .i64 (x.1 : Nat)] 3)) _) := ⟨HF5.out.below (((Below.refl wr.heap.size wr).alloc (Nat.le_refl _) _).alloc (by simp) _)⟩
          have HN6 : Hf (∀ j u, ([Value.int .i64 (x.1 : Nat)] : List Value)[j]? = some u → ((wr.alloc (.cells #[.int .i64 (x.1 : Nat), .int .u64 (x.2 : Nat)] 105)).alloc (.cells #[.int .i64 (x.1 : Nat)] 3)).cell? ((⟨wr.heap.size + 1, 0, none⟩ : Addr).add j) = some u) := ⟨by
            have := new_cells1 (wr.alloc (.cells #[.int .i64 (x.1 : Nat), .int .u64 (x.2 : Nat)] 105)) 3 (.int .i64 (x.1 : Nat))
            rw [World.size_alloc] at this
            exact this⟩
          have HMX : Hf (m + 1 ≤ maxLen) := ⟨by unfold maxLen; omega⟩
          go_wp2_with (at_builtin; refine wpList_append_full _ (isI .i64) rfl (.tmp 44) (.tmp 47) 34 rfl w2.heap.size 3 i3 (.int .i64 0) 1 8 Try.underlying34 hi3 hz30 hz31 hz32 rfl (by decide) _ m (intsN ((ordL id k).take m)) rfl HO6.out HF6.out zero_isI ⟨wr.heap.size + 1, 0, none⟩ 1 1 [.int .i64 (x.1 : Nat)] rfl rfl HN6.out (by simp [Value.oneCell']) (one_isI _) HMX.out (by omega) (by have := HLW.out; simp; omega) ?_; intro v4 w4 hown4 hgrow4 _ hf4; have HO7 := Hf.mk hown4; have HF7 := Hf.mk hf4; have HB7 := Hf.mk (below_own HO6.out ((Below.refl _ _).alloc (Nat.le_refl _) (.cells #[.int .i64 (x.1 : Nat), .int .u64 (x.2 : Nat)] 105)) hgrow4 HLW.out); clear hown4 hgrow4 hf4)
          go_roundw
          case rel => exact ⟨m + 1, by omega, by go_num, ⟨by rw [HXL.out]; exact HO7.out⟩, HF7, ⟨HW5.out.trans HB7.out⟩⟩
          case measure => simp [intOf]; omega
        · obtain rfl : m = k := by omega
          obtain ⟨g2, cap2, rfl⟩ := Go.Joins.ownsRow_form HO5.out (by omega)
          have e1 : (ordL id m).take m = ordL id m := List.take_of_length_le (by rw [ordL_len]; exact Nat.le_refl _)
          rw [e1] at HO5
          have HOE := Hf.mk (Go.Joins.ownsRow_le HO5.out HB2.out.size)
          go_wp2
          go_ret2
          exact ⟨g2, cap2, rfl, HOE.out, HF5.out, below_step HB2.out HW5.out⟩
end
section
open Go.RowKit

/-- what an order tells -/
def ordX (id : List Nat) (n : Int) : List Int := if 1 ≤ n ∧ n ≤ 64 then ordI id n.toNat else []
def errX (n : Int) : Int := if 1 ≤ n ∧ n ≤ 64 then 0 else 2
def placeX (id : List Nat) (n c : Int) (live : List Int) : List (Int × Int) := if 1 ≤ n ∧ n ≤ 64 ∧ 1 ≤ c ∧ c ≤ n then placeS id n.toNat c.toNat live else []
def errP (n c : Int) : Int := if 1 ≤ n ∧ n ≤ 64 ∧ 1 ≤ c ∧ c ≤ n then 0 else 2
def homeX (id : List Nat) (n c x : Int) : Bool := if 1 ≤ n ∧ n ≤ 64 ∧ 1 ≤ c ∧ c ≤ n then decide (x ∈ (ordI id n.toNat).take c.toNat) else false
theorem placeL_len (live : List Int) : ∀ hs os : List Int, (placeL live hs os).length ≤ hs.length
  | [], os => by simp [placeL]
  | h :: hs, os => by
    by_cases hin : h ∈ live
    · rw [placeL_in hin]; have := placeL_len live hs os; simp; omega
    · cases os with
      | nil => rw [placeL_nil hin]; have := placeL_len live hs []; simp; omega
      | cons o os => rw [placeL_cons hin]; have := placeL_len live hs os; simp; omega
theorem ordX_len (id : List Nat) (n : Int) : (ordX id n).length ≤ 64 := by
  unfold ordX
  split
  · rw [ordI_len]; omega
  · simp
theorem placeX_len (id : List Nat) (n c : Int) (live : List Int) : (placeX id n c live).length ≤ 64 := by
  unfold placeX
  split
  · refine Nat.le_trans (placeL_len _ _ _) ?_
    rw [List.length_take, ordI_len]; omega
  · simp
/-- a row of ints, all of whose block's cells are ints -/
def FullI (w : World) (base : Nat) (v : Value) : Prop := v = .slice none 0 0 ∨ ∃ g n cap cur, v = .slice (some ⟨g, 0, none⟩) n cap ∧ base ≤ g ∧ w.heap[g]? = some (.cells cur 3 (0, 0)) ∧ cur.size = cap ∧ cap ≤ maxLen ∧ n ≤ cap ∧ ∀ u ∈ cur.toList, isI .i64 u
theorem FullI.below {w w' : World} {base : Nat} {v : Value} (h : FullI w base v) (hb : Below w.heap.size w w') : FullI w' base v := by
  rcases h with h | ⟨g, n, cap, cur, h1, h2, h3, h4⟩
  · exact .inl h
  · exact .inr ⟨g, n, cap, cur, h1, h2, (hb.block _ (Array.getElem?_eq_some_iff.1 h3).1).trans h3, h4⟩
theorem fullI_own {w : World} {base n g cap : Nat} {xs : List Value} (h : w.ownsRow base 3 1 (.slice (some ⟨g, 0, none⟩) n cap) n xs) (hf : Full (isI .i64) 3 w (.slice (some ⟨g, 0, none⟩) n cap)) : FullI w base (.slice (some ⟨g, 0, none⟩) n cap) := by
  rcases h.2 with ⟨h0, _⟩ | ⟨g', cap', cur, hv, h1, h2, h3, h4, h5, _⟩
  · cases h0
  · cases hv
    obtain ⟨cur', h6, h7⟩ := hf g (by simp [Value.ownBlock])
    rw [h2] at h6
    injection h6 with h6
    injection h6 with h6 _ _
    subst h6
    exact .inr ⟨g, n, cap, cur, rfl, h1, h2, by rw [h5]; show cap * 1 = cap; omega, h4, h3, h7⟩
theorem orderP (id : List Nat) (n : Int) (w : World) (hl : id.length = 32) (hb : ∀ c ∈ id, c < 256) :
    Calls Try.prog 24 #[.agg (cellsOf id).toArray, .int .i64 n] w fun e w' => ∃ A c, e = .returned (.tuple #[.slice A (ordX id n).length c, .int .i64 (errX n)]) ∧ RdI w' A (ordX id n) ∧ FullI w' w.heap.size (.slice A (ordX id n).length c) ∧ Below w.heap.size w w' := by
  unfold ordX errX
  by_cases hn : 1 ≤ n ∧ n ≤ 64
  · obtain ⟨k, rfl⟩ : ∃ k : Nat, n = k := ⟨n.toNat, by omega⟩
    rw [if_pos hn, if_pos hn, Int.toNat_natCast, ordI_len]
    refine (order_full sorts id k w hl hb (by omega) (by omega)).mono fun e w' h => ?_
    obtain ⟨g, cap, he, ho, hf, hb'⟩ := h
    exact ⟨_, cap, he, rdI_own ho, fullI_own ho hf, hb'⟩
  · rw [if_neg hn, if_neg hn]
    refine (order_bad id n w hn).mono fun e w' h => ?_
    exact ⟨none, 0, h.1, RdI.nil _ _, .inl rfl, h.2⟩
theorem orderD (id : List Nat) (n : Int) (w : World) (hl : id.length = 32) (hb : ∀ c ∈ id, c < 256) :
    Calls Try.prog 25 #[.agg (cellsOf id).toArray, .int .i64 n] w fun e w' => ∃ A c, e = .returned (.tuple #[.slice A (ordX id n).length c, .int .i64 (errX n)]) ∧ RdI w' A (ordX id n) ∧ Below w.heap.size w w' := by
  unfold ordX errX
  by_cases hn : 1 ≤ n ∧ n ≤ 64
  · obtain ⟨k, rfl⟩ : ∃ k : Nat, n = k := ⟨n.toNat, by omega⟩
    rw [if_pos hn, if_pos hn, Int.toNat_natCast, ordI_len]
    refine (orderR_any id k w hl hb (by omega) (by omega)).mono fun e w' h => ?_
    obtain ⟨g, cap, he, ho, hb'⟩ := h
    exact ⟨_, cap, he, rdI_own ho, hb'⟩
  · rw [if_neg hn, if_neg hn]
    refine (orderR_bad id n w hl hn).mono fun e w' h => ?_
    exact ⟨none, 0, h.1, RdI.nil _ _, h.2⟩
theorem placeP (id : List Nat) (n c : Int) (live : List Int) (A : Option Addr) (lc : Nat) (w : World) (hl : id.length = 32) (hb : ∀ c ∈ id, c < 256) (hr : RdI w A live) (hll : live.length ≤ 9223372036854775807) :
    Calls Try.prog 26 #[.agg (cellsOf id).toArray, .int .i64 n, .int .i64 c, .slice A live.length lc] w fun e w' => ∃ A' c', e = .returned (.tuple #[.slice A' (placeX id n c live).length c', .int .i64 (errP n c)]) ∧ RdS w' A' (placeX id n c live) ∧ Below w.heap.size w w' := by
  unfold placeX errP
  by_cases hn : 1 ≤ n ∧ n ≤ 64 ∧ 1 ≤ c ∧ c ≤ n
  · obtain ⟨k, rfl⟩ : ∃ k : Nat, n = k := ⟨n.toNat, by omega⟩
    obtain ⟨m, rfl⟩ : ∃ m : Nat, c = m := ⟨c.toNat, by omega⟩
    rw [if_pos hn, if_pos hn, Int.toNat_natCast, Int.toNat_natCast]
    refine (place_any id k m live A lc w hl hb (by omega) (by omega) (by omega) (by omega) hr hll).mono fun e w' h => ?_
    obtain ⟨v, he, ho, hb'⟩ := h
    obtain ⟨A', c', rfl, hs, _⟩ := rdS_own rfl ho
    exact ⟨A', c', he, hs, hb'⟩
  · rw [if_neg hn, if_neg hn]
    refine (place_bad id n c A live.length lc w hl hn).mono fun e w' h => ?_
    exact ⟨none, 0, h.1, fun i hi => by simp at hi, h.2⟩
theorem placeD (id : List Nat) (n c : Int) (live : List Int) (A : Option Addr) (lc : Nat) (w : World) (hl : id.length = 32) (hb : ∀ c ∈ id, c < 256) (hr : RdI w A live) (hll : live.length ≤ 9223372036854775807) :
    Calls Try.prog 27 #[.agg (cellsOf id).toArray, .int .i64 n, .int .i64 c, .slice A live.length lc] w fun e w' => ∃ A' c', e = .returned (.tuple #[.slice A' (placeX id n c live).length c', .int .i64 (errP n c)]) ∧ RdS w' A' (placeX id n c live) ∧ Below w.heap.size w w' := by
  unfold placeX errP
  by_cases hn : 1 ≤ n ∧ n ≤ 64 ∧ 1 ≤ c ∧ c ≤ n
  · obtain ⟨k, rfl⟩ : ∃ k : Nat, n = k := ⟨n.toNat, by omega⟩
    obtain ⟨m, rfl⟩ : ∃ m : Nat, c = m := ⟨c.toNat, by omega⟩
    rw [if_pos hn, if_pos hn, Int.toNat_natCast, Int.toNat_natCast]
    refine (placeR_any id k m live A lc w hl hb (by omega) (by omega) (by omega) (by omega) hr hll).mono fun e w' h => ?_
    obtain ⟨v, he, ho, hb'⟩ := h
    obtain ⟨A', c', rfl, hs, _⟩ := rdS_own rfl ho
    exact ⟨A', c', he, hs, hb'⟩
  · rw [if_neg hn, if_neg hn]
    refine (placeR_bad id n c A live.length lc w hl hn).mono fun e w' h => ?_
    exact ⟨none, 0, h.1, fun i hi => by simp at hi, h.2⟩
theorem homeP (id : List Nat) (n c x : Int) (w : World) (hl : id.length = 32) (hb : ∀ c ∈ id, c < 256) :
    Calls Try.prog 30 #[.agg (cellsOf id).toArray, .int .i64 n, .int .i64 c, .int .i64 x] w fun e w' => e = .returned (.bool (homeX id n c x)) ∧ Below w.heap.size w w' := by
  unfold homeX
  by_cases hn : 1 ≤ n ∧ n ≤ 64 ∧ 1 ≤ c ∧ c ≤ n
  · obtain ⟨k, rfl⟩ : ∃ k : Nat, n = k := ⟨n.toNat, by omega⟩
    obtain ⟨m, rfl⟩ : ∃ m : Nat, c = m := ⟨c.toNat, by omega⟩
    rw [if_pos hn, Int.toNat_natCast, Int.toNat_natCast]
    exact home_fine id k m x w hl hb (by omega) (by omega) (by omega) (by omega)
  · rw [if_neg hn]
    exact home_bad id n c x w hl hn
theorem homeD (id : List Nat) (n c x : Int) (w : World) (hl : id.length = 32) (hb : ∀ c ∈ id, c < 256) :
    Calls Try.prog 31 #[.agg (cellsOf id).toArray, .int .i64 n, .int .i64 c, .int .i64 x] w fun e w' => e = .returned (.bool (homeX id n c x)) ∧ Below w.heap.size w w' := by
  unfold homeX
  by_cases hn : 1 ≤ n ∧ n ≤ 64 ∧ 1 ≤ c ∧ c ≤ n
  · obtain ⟨k, rfl⟩ : ∃ k : Nat, n = k := ⟨n.toNat, by omega⟩
    obtain ⟨m, rfl⟩ : ∃ m : Nat, c = m := ⟨c.toNat, by omega⟩
    rw [if_pos hn, Int.toNat_natCast, Int.toNat_natCast]
    exact homeR_fine id k m x w hl hb (by omega) (by omega) (by omega) (by omega)
  · rw [if_neg hn]
    exact homeR_bad id n c x w hl hn
/-- append([]T{}, xs...) in a plain region -/
theorem wpList_copy {P : Program} {ops : Array Oper} {rest : List Oper} {o : Oper} {a : Act} {w : World} {Q : Exit → Act → World → Prop}
    (hg : o.guard = none) (s x : Operand) (t : TypeId) (hop : o.op = Op.call { callee := Callee.builtin Builtin.append, args := #[s, x], argTypes := #[t, t] })
    (e : TypeId) (i : TypeInfo) (z : Value) (bytes : Nat) (h1 : P.underlying t = some (.slice e)) (h2 : P.info? e = some i) (h3 : i.zero = some z) (h4 : i.size = 1) (h5 : i.bytes = bytes) (h6 : z.cells.size = 1)
    (g0 : Nat) (hs : a.eval s = .slice (some ⟨g0, 0, none⟩) 0 0) (A : Option Addr) (m c : Nat) (news : List Value) (hx : a.eval x = .slice A m c) (hn : news.length = m) (hc : 0 < m → ∃ ad, A = some ad ∧ ∀ j u, news[j]? = some u → w.cell? (ad.add j) = some u) (h1c : ∀ u ∈ news, u.oneCell' = true)
    (b1 : m ≤ 1000) (b2 : bytes ≤ 1000)
    (h : ∀ (g cap : Nat) (w' : World), Below w.heap.size w w' → (g = g0 ∨ w.heap.size ≤ g) → (∀ j u, news[j]? = some u → w'.cell? ((⟨g, 0, none⟩ : Addr).add j) = some u) → wpList P ops Q rest (a.put o.dst (.slice (some ⟨g, 0, none⟩) m cap)) w') :
    wpList P ops Q (o :: rest) a w :=
  wpList_plain hg fun K hK => by
    have := step_copy (P := P) (ops := #[]) (K := K) (Q := Q) (E := True) hg s x t hop e i z bytes h1 h2 h3 h4 h5 h6 g0 hs A m c news hx hn hc h1c b1 b2 fun g cap w' q1 q2 q3 => hK _ _ (h g cap w' q1 q2 q3)
    rwa [if_pos (by simp [Region.wanted, hg])] at this
theorem rdI_news {w : World} {A : Option Addr} {l : List Int} (h : RdI w A l) (hl : 0 < l.length) : ∃ ad, A = some ad ∧ ∀ j u, (intsZ l)[j]? = some u → w.cell? (ad.add j) = some u := by
  obtain ⟨b, off, rfl, _, hc⟩ := h.form hl
  refine ⟨_, rfl, fun j u hu => ?_⟩
  unfold intsZ at hu
  rw [List.getElem?_map] at hu
  obtain ⟨x, hx, rfl⟩ := Option.map_eq_some_iff.1 hu
  have hj := (List.getElem?_eq_some_iff.1 hx).1
  rw [Addr.add_lit, hc j hj, List.getD_eq_getElem?_getD, hx]
  rfl
theorem rdI_cells {w : World} {g : Nat} {l : List Int} (hg : 0 < l.length → g < w.heap.size) (h : ∀ j u, (intsZ l)[j]? = some u → w.cell? ((⟨g, 0, none⟩ : Addr).add j) = some u) : RdI w (some ⟨g, 0, none⟩) l := fun i hi => by
  refine ⟨g, 0, rfl, hg (by omega), ?_⟩
  have := h i (.int .i64 (l.getD i 0)) (by unfold intsZ; rw [List.getElem?_map, List.getD_eq_getElem?_getD, List.getElem?_eq_getElem hi]; rfl)
  rwa [Addr.add_lit] at this
theorem copyInts_any (A : Option Addr) (c : Nat) (l : List Int) (w : World) (h : RdI w A l) (hl : l.length ≤ 1000) :
    Calls Try.prog 23 #[.slice A l.length c] w fun e w' => ∃ g cap, e = .returned (.slice (some ⟨g, 0, none⟩) l.length cap) ∧ RdI w' (some ⟨g, 0, none⟩) l ∧ Below w.heap.size w w' := by
  obtain ⟨i3, hi3, hz30, hz31, hz32⟩ := info_parts info3
  have HB : Hf (Below w.heap.size w (w.alloc (.cells #[] 3))) := ⟨(Below.refl _ _).alloc (Nat.le_refl _) _⟩
  have HN := Hf.mk (fun hm => rdI_news (h.below HB.out) hm)
  have HL : Hf ((intsZ l).length = l.length) := ⟨by unfold intsZ; rw [List.length_map]⟩
  have HO : Hf (∀ u ∈ intsZ l, u.oneCell' = true) := ⟨fun u hu => by obtain ⟨x, _, rfl⟩ := List.mem_map.1 hu; rfl⟩
  clear h
  go_enter Try.func23, Try.ntmps23
  go_wp2_with (at_builtin; refine wpList_copy rfl (.tmp 3) (.tmp 4) 34 rfl 3 i3 (.int .i64 0) 8 Try.underlying34 hi3 hz30 hz31 hz32 rfl w.heap.size rfl A l.length c (intsZ l) rfl HL.out HN.out HO.out (by omega) (by omega) ?_; intro g cap w1 hb1 hg1 hc1; have HB1 := Hf.mk hb1; have HC1 := Hf.mk hc1; clear hb1 hc1 hg1)
  go_ret
  refine ⟨g, cap, rfl, rdI_cells (fun h0 => ?_) HC1.out, below_step HB.out HB1.out⟩
  obtain ⟨x, hx⟩ : ∃ x, (intsZ l)[0]? = some x := ⟨_, List.getElem?_eq_getElem (by rw [HL.out]; exact h0)⟩
  exact World.block_lt_of_cell? w1 ((⟨g, 0, none⟩ : Addr).add 0) (HC1.out 0 x hx)
theorem isI_get {cur : Array Value} {i : Nat} (h : ∀ u ∈ cur.toList, isI .i64 u) (hi : i < cur.size) : ∃ x, cur[i]? = some (.int .i64 x) := by
  obtain ⟨x, hx⟩ := h cur[i] (by simp)
  exact ⟨x, by rw [Array.getElem?_eq_getElem hi, hx]⟩
theorem isI_set {cur : Array Value} {i : Nat} {y : Int} (h : ∀ u ∈ cur.toList, isI .i64 u) : ∀ u ∈ (cur.setIfInBounds i (.int .i64 y)).toList, isI .i64 u := by
  intro u hu
  rw [Array.toList_setIfInBounds] at hu
  rcases List.mem_or_eq_of_mem_set hu with hu | hu
  · exact h u hu
  · exact ⟨y, hu⟩
set_option maxHeartbeats 1600000 in
set_option maxRecDepth 100000 in
theorem overInts_any (base : Nat) (v : Value) (w : World) (h : FullI w base v) :
    Calls Try.prog 32 #[v] w fun e w' => e = .returned (.tuple #[]) ∧ Below base w w' := by
  rcases h with rfl | ⟨g, n, cap, cur, rfl, hg, hgg, hc, hm, hn, hI⟩
  · go_enter Try.func32, Try.ntmps32
    go_wp2
    go_loop [2] (fun i => i = .int .i64 0) (fun i => 0 - (intOf i).toNat)
    case atStart => rfl
    case round =>
      subst hrel
      go_wp2
      go_end0
      exact ⟨rfl, Below.refl _ _⟩
  · unfold maxLen at hm
    have HG := Hf.mk hgg
    have HI := Hf.mk hI
    have HC := Hf.mk hc
    clear hgg hI hc
    have hn' : (n : Int) ≤ (cap : Int) := by omega
    go_enter Try.func32, Try.ntmps32
    go_wp2
    go_loopw [2] (fun i wr => ∃ (k : Nat) (cs : Array Value), k ≤ cap ∧ i = .int .i64 k ∧ Hf (wr.heap[g]? = some (.cells cs 3 (0, 0))) ∧ Hf (cs.size = cap) ∧ Hf (∀ u ∈ cs.toList, isI .i64 u) ∧ Hf (Below base w wr)) (fun i _ => cap - (intOf i).toNat)
    case atStart => exact ⟨0, cur, by omega, rfl, HG, HC, HI, ⟨Below.refl _ _⟩⟩
    case round =>
      clear HG HI HC
      obtain ⟨k, cs, hk, rfl, HG, HC, HI, HM⟩ := hrel
      by_cases hgo : k < cap
      · obtain ⟨x, hx⟩ := isI_get HI.out (i := k) (by rw [HC.out]; exact hgo)
        have q0 := Go.Joins.cell_of_block HG.out k
        rw [hx] at q0
        clear hx
        have q1 := Go.Joins.unfrozen_of_block HG.out k
        go_wp2
        go_roundw
        case rel => exact ⟨k + 1, _, by omega, by go_num, ⟨Go.Joins.block_setCell HG.out _⟩, ⟨by rw [Array.size_setIfInBounds]; exact HC.out⟩, ⟨isI_set HI.out⟩, ⟨HM.out.setCell hg _⟩⟩
        case measure => simp [intOf]; omega
      · obtain rfl : k = cap := by omega
        go_wp2
        go_end0
        exact ⟨rfl, HM.out⟩
end
section
open Go.RowKit

set_option maxHeartbeats 4000000 in
set_option maxRecDepth 100000 in
theorem places17 (id : List Nat) (n c x : Int) (live : List Int) (A : Option Addr) (lc : Nat) (w : World) (hl : id.length = 32) (hb : ∀ c ∈ id, c < 256) (hr : RdI w A live) (hll : live.length ≤ 9223372036854775807) :
    Calls Try.prog 5 #[.agg (cellsOf id).toArray, .int .i64 n, .int .i64 c, .int .i64 x, .slice A live.length lc] w fun e w' => e = .returned (.bool true) ∧ Below w.heap.size w w' := by
  have HAW := Hf.mk awake17
  have HOP := Hf.mk (fun u => orderP id n u hl hb)
  have HOD := Hf.mk (fun u => orderD id n u hl hb)
  have HPP := Hf.mk (fun (u : World) (A' : Option Addr) (lc' : Nat) (h : RdI u A' live) => placeP id n c live A' lc' u hl hb h hll)
  have HPD := Hf.mk (fun (u : World) (A' : Option Addr) (lc' : Nat) (h : RdI u A' live) => placeD id n c live A' lc' u hl hb h hll)
  have HHP := Hf.mk (fun u => homeP id n c x u hl hb)
  have HHD := Hf.mk (fun u => homeD id n c x u hl hb)
  have HOL : Hf ((ordX id n).length ≤ 1000) := ⟨Nat.le_trans (ordX_len _ _) (by decide)⟩
  have HPL : Hf ((placeX id n c live).length ≤ 1000) := ⟨Nat.le_trans (placeX_len _ _ _ _) (by decide)⟩
  generalize ordX id n = OX at *
  generalize placeX id n c live = PX at *
  generalize errX n = e1 at *
  generalize errP n c = e2 at *
  generalize homeX id n c x = hm at *
  have hz : (cellsOf id).toArray.size = 32 := by rw [List.size_toArray, cellsOf_length, hl]
  have h1 := heap_alloc_new w (.cells (cellsOf id).toArray 23)
  have HB : Hf (Below w.heap.size w (w.alloc (.cells (cellsOf id).toArray 23))) := ⟨(Below.refl _ _).alloc (Nat.le_refl _) _⟩
  have HR := Hf.mk (hr.below HB.out)
  generalize (cellsOf id).toArray = zs at *
  have HZ := Hf.mk hz
  have HLL := Hf.mk hll
  clear hz hl hb hr hll
  by_cases hlong : 100 < live.length
  · have hlong' : (100 : Int) < (live.length : Int) := by omega
    clear hlong h1
    go_enter Try.func5, Try.ntmps5
    go_upto_region 1 with fail
    generalize w.alloc (.cells zs 23) = W at *
    go_wp2_with (go_at_call 22; (with_reducible refine (HAW.out _).mono ?_); rintro e w1 ⟨rfl, hb1⟩; have HB1 := Hf.mk hb1; clear hb1)
    go_ret
    exact ⟨rfl, below_step HB.out HB1.out⟩
  · have hlong' : (live.length : Int) ≤ (100 : Int) := by omega
    have HL1 : Hf (live.length ≤ 1000) := ⟨by omega⟩
    clear hlong
    go_enter Try.func5, Try.ntmps5
    go_upto_region 1 with fail
    have H0 := Hf.mk h1
    clear h1
    generalize w.alloc (.cells zs 23) = W at *
    go_upto_region 8 with (first
      | (go_at_call 23; (with_reducible refine (copyInts_any A lc live _ HR.out HL1.out).mono ?_); rintro e w1 ⟨gi, ci, rfl, hr1, hb1⟩; have HI1 := Hf.mk hr1; have HB1 := Hf.mk hb1; have H1 := Hf.mk (kept_heap H0.out hb1); have HV1 := Hf.mk (HR.out.below hb1); clear hr1 hb1)
      | (refine wpList_load_rowW rfl 23 (.tmp 5) rfl _ rfl 23 zs (0, 0) _ H1.out Try.underlying23 rfl (size23.trans (by rw [HZ.out])) ?_)
      | (go_at_call 24; (with_reducible refine (HOP.out _).mono ?_); rintro e w2 ⟨A1, c1, rfl, hr2, hf2, hb2⟩; have HA2 := Hf.mk hr2; have HF2 := Hf.mk hf2; have HB2 := Hf.mk hb2; have H2 := Hf.mk (kept_heap H1.out hb2); have HI2 := Hf.mk (HI1.out.below hb2); have HV2 := Hf.mk (HV1.out.below hb2); clear hr2 hf2 hb2)
      | (refine wpList_load_rowW rfl 23 (.tmp 5) rfl _ rfl 23 zs (0, 0) _ H2.out Try.underlying23 rfl (size23.trans (by rw [HZ.out])) ?_)
      | (go_at_call 25; (with_reducible refine (HOD.out _).mono ?_); rintro e w3 ⟨A2, c2, rfl, hr3, hb3⟩; have HE3 := Hf.mk hr3; have HB3 := Hf.mk hb3; have HA3 := Hf.mk (HA2.out.below hb3); have HF3 := Hf.mk (HF2.out.below hb3); have H3 := Hf.mk (kept_heap H2.out hb3); have HI3 := Hf.mk (HI2.out.below hb3); have HV3 := Hf.mk (HV2.out.below hb3); clear hr3 hb3)
      | (refine wpList_load_rowW rfl 23 (.tmp 5) rfl _ rfl 23 zs (0, 0) _ H3.out Try.underlying23 rfl (size23.trans (by rw [HZ.out])) ?_)
      | (go_at_call 26; (with_reducible refine (HPP.out _ _ _ HI3.out).mono ?_); rintro e w4 ⟨A3, c3, rfl, hr4, hb4⟩; have HP4 := Hf.mk hr4; have HB4 := Hf.mk hb4; have HA4 := Hf.mk (HA3.out.below hb4); have HE4 := Hf.mk (HE3.out.below hb4); have HF4 := Hf.mk (HF3.out.below hb4); have H4 := Hf.mk (kept_heap H3.out hb4); have HI4 := Hf.mk (HI3.out.below hb4); have HV4 := Hf.mk (HV3.out.below hb4); clear hr4 hb4)
      | (refine wpList_load_rowW rfl 23 (.tmp 5) rfl _ rfl 23 zs (0, 0) _ H4.out Try.underlying23 rfl (size23.trans (by rw [HZ.out])) ?_)
      | (go_at_call 27; (with_reducible refine (HPD.out _ _ _ HV4.out).mono ?_); rintro e w5 ⟨A4, c4, rfl, hr5, hb5⟩; have HQ5 := Hf.mk hr5; have HB5 := Hf.mk hb5; have HA5 := Hf.mk (HA4.out.below hb5); have HE5 := Hf.mk (HE4.out.below hb5); have HP5 := Hf.mk (HP4.out.below hb5); have HF5 := Hf.mk (HF4.out.below hb5); have H5 := Hf.mk (kept_heap H4.out hb5); have HI5 := Hf.mk (HI4.out.below hb5); have HV5 := Hf.mk (HV4.out.below hb5); clear hr5 hb5))
    have HBA := Hf.mk (below_step HB2.out (below_step HB3.out (below_step HB4.out HB5.out)))
    have HBX := Hf.mk (below_step HB.out HB1.out)
    have HI1' := Hf.mk HI1.out
    clear HI2 HI3 HI4 HV2 HV3 HV4 HA2 HA3 HA4 HE3 HE4 HP4 HF2 HF3 HF4 H0 H1 H2 H3 H4 HB HB1 HB2 HB3 HB4 HOP HOD HPP HPD
    have HD : Hf (∀ u, Below w5.heap.size w5 u → u.heap[w.heap.size]? = some (.cells zs 23)) := ⟨fun u hu => kept_heap H5.out hu⟩
    have HE28 : Hf (∀ args u, (callFunc 28 args).run Try.prog u = .ok (.enter 28 args) u) := ⟨enters_of Try.func28 (by kernel_rfl) rfl⟩
    have HE29 : Hf (∀ args u, (callFunc 29 args).run Try.prog u = .ok (.enter 29 args) u) := ⟨enters_of Try.func29 (by kernel_rfl) rfl⟩
    have HE30 : Hf (∀ args u, (callFunc 30 args).run Try.prog u = .ok (.enter 30 args) u) := ⟨enters_of Try.func30 (by kernel_rfl) rfl⟩
    have HE31 : Hf (∀ args u, (callFunc 31 args).run Try.prog u = .ok (.enter 31 args) u) := ⟨enters_of Try.func31 (by kernel_rfl) rfl⟩
    have HSI := Hf.mk (fun (u : World) (hu : Below w5.heap.size w5 u) => same_ints A1 A2 c1 c2 OX u (HA5.out.below hu) (HE5.out.below hu) HOL.out)
    have HSS := Hf.mk (fun (u : World) (hu : Below w5.heap.size w5 u) => same_spots A3 A4 c3 c4 PX u (HP5.out.below hu) (HQ5.out.below hu) HPL.out)
    refine wp_region_quiet (C := fun W' => Below w5.heap.size w5 W') (by kernel_rfl) (by kernel_rfl) (Below.refl _ _).drew ?_
    simp only [List.toList_toArray]
    (go_big_quiet_want; go_big_quiet_op; first | go_big_quiet_on | (refine ⟨_, fun _ _ => rfl, ?_⟩; go_big_quiet_on))
    (go_big_quiet_want; go_big_quiet_op; first | go_big_quiet_on | (refine ⟨_, fun _ _ => rfl, ?_⟩; go_big_quiet_on))
    refine qstep_call (by rfl) 28 #[.tmp 55, .tmp 56] #[34, 34] rfl #[.slice A1 OX.length c1, .slice A2 OX.length c2] (by simp [Act.eval, Act.put]) (.bool true) HE28.out (fun W hW => (HSI.out W hW).mono fun e w'' h => ⟨h.1, below_step hW h.2⟩) ?_
    (refine wpQuiet_step (fun K hK => ?_); go_simp; refine ⟨_, fun _ _ => rfl, hK _ ?_⟩; clear hK K)
    (go_big_quiet_want; go_big_quiet_op; first | go_big_quiet_on | (refine ⟨_, fun _ _ => rfl, ?_⟩; go_big_quiet_on))
    (go_big_quiet_want; go_big_quiet_op; first | go_big_quiet_on | (refine ⟨_, fun _ _ => rfl, ?_⟩; go_big_quiet_on))
    (go_big_quiet_want; go_big_quiet_op; first | go_big_quiet_on | (refine ⟨_, fun _ _ => rfl, ?_⟩; go_big_quiet_on))
    (go_big_quiet_want; go_big_quiet_op; first | go_big_quiet_on | (refine ⟨_, fun _ _ => rfl, ?_⟩; go_big_quiet_on))
    (go_big_quiet_want; go_big_quiet_op; first | go_big_quiet_on | (refine ⟨_, fun _ _ => rfl, ?_⟩; go_big_quiet_on))
    (go_big_quiet_want; go_big_quiet_op; first | go_big_quiet_on | (refine ⟨_, fun _ _ => rfl, ?_⟩; go_big_quiet_on))
    (go_big_quiet_want; go_big_quiet_op; first | go_big_quiet_on | (refine ⟨_, fun _ _ => rfl, ?_⟩; go_big_quiet_on))
    refine qstep_call (by rfl) 29 #[.tmp 64, .tmp 65] #[38, 38] rfl #[.slice A3 PX.length c3, .slice A4 PX.length c4] (by simp [Act.eval, Act.put]) (.bool true) HE29.out (fun W hW => (HSS.out W hW).mono fun e w'' h => ⟨h.1, below_step hW h.2⟩) ?_
    (refine wpQuiet_step (fun K hK => ?_); go_simp; refine ⟨_, fun _ _ => rfl, hK _ ?_⟩; clear hK K)
    (go_big_quiet_want; go_big_quiet_op; first | go_big_quiet_on | (refine ⟨_, fun _ _ => rfl, ?_⟩; go_big_quiet_on))
    (go_big_quiet_want; go_big_quiet_op; first | go_big_quiet_on | (refine ⟨_, fun _ _ => rfl, ?_⟩; go_big_quiet_on))
    (go_big_quiet_want; go_big_quiet_op; first | go_big_quiet_on | (refine ⟨_, fun _ _ => rfl, ?_⟩; go_big_quiet_on))
    (go_big_quiet_want; go_big_quiet_op; first | go_big_quiet_on | (refine ⟨_, fun _ _ => rfl, ?_⟩; go_big_quiet_on))
    (go_big_quiet_want; go_big_quiet_op; first | go_big_quiet_on | (refine ⟨_, fun _ _ => rfl, ?_⟩; go_big_quiet_on))
    (go_big_quiet_want; go_big_quiet_op; first | go_big_quiet_on | (refine ⟨_, fun _ _ => rfl, ?_⟩; go_big_quiet_on))
    refine qstep_load (by rfl) 23 (.tmp 5) rfl _ rfl 23 zs (0, 0) _ HD.out Try.underlying23 rfl (size23.trans (by rw [HZ.out])) ?_
    (refine wpQuiet_step (fun K hK => ?_); go_simp; refine ⟨_, fun _ _ => rfl, hK _ ?_⟩; clear hK K)
    (go_big_quiet_want; go_big_quiet_op; first | go_big_quiet_on | (refine ⟨_, fun _ _ => rfl, ?_⟩; go_big_quiet_on))
    (go_big_quiet_want; go_big_quiet_op; first | go_big_quiet_on | (refine ⟨_, fun _ _ => rfl, ?_⟩; go_big_quiet_on))
    refine qstep_call (by rfl) 30 #[.tmp 74, .tmp 75, .tmp 76, .tmp 77] #[23, 3, 3, 3] rfl #[.agg zs, .int .i64 n, .int .i64 c, .int .i64 x] (by simp [Act.eval, Act.put]) (.bool hm) HE30.out (fun W hW => (HHP.out W).mono fun e w'' h => ⟨h.1, below_step hW h.2⟩) ?_
    refine qstep_load (by rfl) 23 (.tmp 5) rfl _ rfl 23 zs (0, 0) _ HD.out Try.underlying23 rfl (size23.trans (by rw [HZ.out])) ?_
    (refine wpQuiet_step (fun K hK => ?_); go_simp; refine ⟨_, fun _ _ => rfl, hK _ ?_⟩; clear hK K)
    (go_big_quiet_want; go_big_quiet_op; first | go_big_quiet_on | (refine ⟨_, fun _ _ => rfl, ?_⟩; go_big_quiet_on))
    (go_big_quiet_want; go_big_quiet_op; first | go_big_quiet_on | (refine ⟨_, fun _ _ => rfl, ?_⟩; go_big_quiet_on))
    refine qstep_call (by rfl) 31 #[.tmp 79, .tmp 80, .tmp 81, .tmp 82] #[23, 3, 3, 3] rfl #[.agg zs, .int .i64 n, .int .i64 c, .int .i64 x] (by simp [Act.eval, Act.put]) (.bool hm) HE31.out (fun W hW => (HHD.out W).mono fun e w'' h => ⟨h.1, below_step hW h.2⟩) ?_
    (refine wpQuiet_step (fun K hK => ?_); go_simp; refine ⟨_, fun _ _ => rfl, hK _ ?_⟩; clear hK K)
    (go_big_quiet_want; go_big_quiet_op; first | go_big_quiet_on | (refine ⟨_, fun _ _ => rfl, ?_⟩; go_big_quiet_on))
    (go_big_quiet_want; go_big_quiet_op; first | go_big_quiet_on | (refine ⟨_, fun _ _ => rfl, ?_⟩; go_big_quiet_on))
    refine wpQuiet_nil ?_
    intro w6 hW6
    have HB6 := Hf.mk hW6
    have HF6 := Hf.mk (HF5.out.below hW6)
    have HB16 := Hf.mk (below_step HBA.out hW6)
    clear hW6
    go_upto_region 10 with (go_at_call 32; (with_reducible refine (overInts_any w1.heap.size _ _ HF6.out).mono ?_); rintro e w7 ⟨rfl, hb7⟩; have HB7 := Hf.mk (HB16.out.trans hb7); clear hb7)
    have HS7 := Hf.mk (same_ints (some ⟨gi, 0, none⟩) A ci lc live w7 (HI1'.out.below HB7.out) (HV1.out.below HB7.out) HL1.out)
    go_wp2_with (first
      | (go_at_call 28; (with_reducible refine HS7.out.mono ?_); rintro e w8 ⟨rfl, hb8⟩; have HB8 := Hf.mk hb8; clear hb8)
      | (go_at_call 22; (with_reducible refine (HAW.out _).mono ?_); rintro e w9 ⟨rfl, hb9⟩; have HB9 := Hf.mk hb9; clear hb9))
    go_ret
    exact ⟨rfl, below_step (below_step HBX.out (HB7.out)) (below_step HB8.out HB9.out)⟩
theorem rankPlaces_walk (id : List Nat) (nodes copies node : Int) (a : Option Addr) (len cap : Nat) (zs : List Int) (W : World) (hl : id.length = 32) (hb : ∀ c ∈ id, c < 256) (_ : (Lit.int .i64 nodes).wf = true) (_ : (Lit.int .i64 copies).wf = true) (_ : (Lit.int .i64 node).wf = true) (h : IsRow .i64 W a len cap zs) :
    Calls Try.prog 5 #[.agg (cellsOf id).toArray, .int .i64 nodes, .int .i64 copies, .int .i64 node, .slice a len cap] W fun e w' => e = .returned (.bool true) ∧ Below W.heap.size W w' := by
  obtain ⟨l, rfl, hr, hll⟩ := isRow_I h
  exact places17 id nodes copies node l a cap W hl hb hr hll
end
end Go.Proofs.Ytaaepadhapfkoaa
