/-
  Rank: an id's order, in memory.
-/
import Derived.Test.YtaaepadhapfkoaaRkP
import Derived.Test.YtaaepadhapfkoaaDgX
import Derived.Shelf.GgSortFunc.RowK
import Derived.ArgAppend
namespace Go.Proofs.Ytaaepadhapfkoaa
set_option linter.unusedSimpArgs false
set_option linter.unusedVariables false
open Go.RowKit Go.Shelf

theorem info105 : (Try.prog.info? 105).map (fun i => (i.zero, i.size, i.bytes)) = some (some (.agg #[.int .i64 0, .int .u64 0]), 2, 16) := by kernel_rfl
theorem info3 : (Try.prog.info? 3).map (fun i => (i.zero, i.size, i.bytes)) = some (some (.int .i64 0), 1, 8) := by kernel_rfl
theorem size105 : (Try.prog.info? 105).map (·.size) = some 2 := by kernel_rfl
/-- the cells of weighed nodes, of ints -/
def flatW (l : List (Nat × Nat)) : List Value := l.flatMap encW
def intsN (l : List Nat) : List Value := l.map fun n : Nat => .int .i64 n
theorem intsN_len (l : List Nat) : (intsN l).length = l.length := by simp [intsN]
theorem intsN_snoc (l : List Nat) (x : Nat) : intsN (l ++ [x]) = intsN l ++ [.int .i64 x] := by simp [intsN]
theorem flatW_len (l : List (Nat × Nat)) : (flatW l).length = l.length * 2 := by
  induction l with
  | nil => rfl
  | cons x l ih => rw [flatW, List.flatMap_cons, List.length_append]; show 2 + (flatW l).length = _; rw [ih, List.length_cons]; omega
theorem flatW_snoc (l : List (Nat × Nat)) (x : Nat × Nat) : flatW (l ++ [x]) = flatW l ++ encW x := by simp [flatW]
theorem flatW_get : ∀ (l : List (Nat × Nat)) (i c : Nat), i < l.length → c < 2 → (flatW l)[i * 2 + c]? = (encW (l.getD i (0, 0)))[c]?
  | [], i, c, h, _ => by simp at h
  | x :: l, 0, c, _, hc => by
    show (encW x ++ flatW l)[0 * 2 + c]? = _
    rw [List.getElem?_append_left (by show _ < 2; omega), Nat.zero_mul, Nat.zero_add]
    rfl
  | x :: l, i + 1, c, h, hc => by
    show (encW x ++ flatW l)[(i + 1) * 2 + c]? = _
    rw [List.getElem?_append_right (by show 2 ≤ _; omega)]
    have := flatW_get l i c (by simpa using h) hc
    rw [show (i + 1) * 2 + c - (encW x).length = i * 2 + c by show (i + 1) * 2 + c - 2 = _; omega, this]
    rfl
theorem holds_flat {w : World} {g : Nat} {cur : Array Value} {l : List (Nat × Nat)} (hg : w.heap[g]? = some (.cells cur 105 (0, 0))) (ht : cur.toList.take (l.length * 2) = flatW l) : Sort.HoldsK encW 2 w g 0 l.toArray := by
  intro j hj
  rw [Sort.size_flatK, List.size_toArray] at hj
  rw [Nat.zero_add]
  refine ⟨?_, Go.Joins.unfrozen_of_block hg j⟩
  rw [Go.Joins.cell_of_block hg j, Sort.get_flatK _ _ _ _ (by rw [List.size_toArray]; exact hj)]
  have h1 := flatW_get l (j / 2) (j % 2) (by omega) (by omega)
  rw [show j / 2 * 2 + j % 2 = j by omega, ← ht, List.getElem?_take, if_pos hj, Array.getElem?_toList] at h1
  rw [h1]
  have h2 : (l.toArray[j / 2]!) = l.getD (j / 2) (0, 0) := by
    have hl : j / 2 < l.length := by omega
    simp [List.getD, hl]
  rw [h2]
  obtain ⟨a, b⟩ := l.getD (j / 2) (0, 0)
  have h3 : j % 2 = 0 ∨ j % 2 = 1 := by omega
  rcases h3 with h3 | h3 <;> rw [h3] <;> rfl
theorem rawW_snoc (id : List Nat) (k : Nat) : rawW id (k + 1) = rawW id k ++ [(k + 1, wOf id (k + 1))] := by
  unfold rawW
  rw [List.range_succ, List.map_append]
  rfl
theorem given_own {w : World} {base g cap n : Nat} {l : List Nat} {xs : List Value} (hl : ∀ c ∈ l, c < 256) (hn : l.length = n) (hx : xs = cellsOf l) (h : w.ownsRow base 5 1 (.slice (some ⟨g, 0, none⟩) n cap) n xs) : Given w (some ⟨g, 0, none⟩) cap l := by
  subst hn
  subst hx
  refine ⟨owns_reads hl h, ?_⟩
  rcases h.2 with ⟨h0, _⟩ | ⟨g', cap', cur, hv, _, _, h1, h2, _⟩
  · cases h0
  · cases hv
    exact ⟨h1, h2, fun h => by cases h⟩
theorem owns_below {w w' : World} {base n size : Nat} {e : TypeId} {v : Value} {xs : List Value} (h : w.ownsRow base e size v n xs) (hb : Below w.heap.size w w') : w'.ownsRow base e size v n xs :=
  h.kept (row := none) ⟨hb.os, hb.tape, hb.output, hb.size, fun i hi _ => hb.block i hi⟩ (by
    rcases h.2 with ⟨rfl, _⟩ | ⟨g, cap, cur, rfl, _⟩
    · exact .inl rfl
    · exact .inr (fun h => by cases h))
theorem round_below {wr w1 w2 w3 : World} {o : Obj} (h1 : (wr.alloc o).grownBy w1 none) (h2 : Below w1.heap.size w1 w2) (h3 : Below w2.heap.size w2 w3) : Below wr.heap.size wr w3 :=
  below_step (below_step (((Below.refl _ _).alloc (Nat.le_refl _) o).grown h1 (by simp) (fun k hk => by cases hk)) h2) h3
theorem owns_at {w : World} {base n size : Nat} {e : TypeId} {v : Value} {xs : List Value} (h : w.ownsRow base e size v n xs) : ∀ k, v.ownBlock = some k → base ≤ k := by
  intro k hk
  rcases h.2 with ⟨rfl, _⟩ | ⟨g, cap, cur, rfl, hg, _⟩
  · cases hk
  · cases hk; exact hg
theorem below_own {wr w3 w4 : World} {base n size : Nat} {e : TypeId} {v : Value} {xs : List Value} {o : Obj} (ho : (w3.alloc o).ownsRow base e size v n xs) (hb : Below wr.heap.size wr w3) (hg : (w3.alloc o).grownBy w4 v.ownBlock) (hbase : base ≤ wr.heap.size) : Below base wr w4 :=
  ((hb.mono hbase).alloc (Nat.le_trans hbase hb.size) o).grown hg (by have := hb.size; simp; omega) (owns_at ho)
theorem new_cells2 (w : World) (t : TypeId) (a b : Value) : ∀ j u, ([a, b] : List Value)[j]? = some u → (w.alloc (.cells #[a, b] t)).cell? ((⟨w.heap.size, 0, none⟩ : Addr).add j) = some u := fun j u hu => by
  rw [Addr.add_lit, Go.Joins.cell_of_block (heap_alloc_new _ _), Nat.zero_add]
  simpa using hu
theorem new_cells1 (w : World) (t : TypeId) (a : Value) : ∀ j u, ([a] : List Value)[j]? = some u → (w.alloc (.cells #[a] t)).cell? ((⟨w.heap.size, 0, none⟩ : Addr).add j) = some u := fun j u hu => by
  rw [Addr.add_lit, Go.Joins.cell_of_block (heap_alloc_new _ _), Nat.zero_add]
  simpa using hu
/-- the sort of weighed nodes -/
def Sorts (P : Program) : Prop := ∀ (g cap : Nat) (l : List (Nat × Nat)) (w : World), Sort.HoldsK encW 2 w g 0 l.toArray → g < w.heap.size → l.length < 1000 →
  Calls P 57 #[.slice (some ⟨g, 0, none⟩) l.length cap, .func (.func 58) #[] #[]] w fun e w' => e = .returned (.tuple #[]) ∧ Sort.HoldsK encW 2 w' g 0 (l.mergeSort leW).toArray ∧ Below g w w' ∧ g < w'.heap.size
theorem own_block_lt {w : World} {base n size g cap : Nat} {e : TypeId} {xs : List Value} (h : w.ownsRow base e size (.slice (some ⟨g, 0, none⟩) n cap) n xs) : g < w.heap.size := by
  rcases h.2 with ⟨h0, _⟩ | ⟨g', cap', cur, hv, _, hh, _⟩
  · cases h0
  · cases hv; exact (Array.getElem?_eq_some_iff.1 hh).1
theorem own_holds {w : World} {base n g cap : Nat} {l : List (Nat × Nat)} (h : w.ownsRow base 105 2 (.slice (some ⟨g, 0, none⟩) n cap) n (flatW l)) : Sort.HoldsK encW 2 w g 0 l.toArray := by
  have hl := h.1
  rw [flatW_len] at hl
  rcases h.2 with ⟨h0, _⟩ | ⟨g', cap', cur, hv, _, hh, _, _, _, ht⟩
  · cases h0
  · cases hv
    refine holds_flat hh ?_
    rw [show l.length * 2 = n * 2 from hl]
    exact ht
theorem holds_below {w w' : World} {g : Nat} {d : Array (Nat × Nat)} (h : Sort.HoldsK encW 2 w g 0 d) (hg : g < w.heap.size) (hb : Below w.heap.size w w') : Sort.HoldsK encW 2 w' g 0 d := fun j hj => by
  have := h j hj
  exact ⟨(hb.cell (p := ⟨g, 0 + j, none⟩) hg).trans this.1, (hb.frozen (p := ⟨g, 0 + j, none⟩) hg).trans this.2⟩
theorem holds_at {w : World} {g i : Nat} {l : List (Nat × Nat)} (h : Sort.HoldsK encW 2 w g 0 l.toArray) (hi : i < l.length) :
    w.cell? ⟨g, i * 2, none⟩ = some (.int .i64 ((l.getD i (0, 0)).1 : Nat)) ∧ w.cell? ⟨g, i * 2 + 1, none⟩ = some (.int .u64 ((l.getD i (0, 0)).2 : Nat)) := by
  have h0 := (h.cell (i := i) (c := 0) (by rw [List.size_toArray]; exact hi) (by omega)).1
  have h1 := (h.cell (i := i) (c := 1) (by rw [List.size_toArray]; exact hi) (by omega)).1
  have h2 : (l.toArray[i]!) = l.getD i (0, 0) := by simp [List.getD, hi]
  rw [h2] at h0 h1
  simp only [Nat.zero_add, Nat.add_zero] at h0 h1
  exact ⟨h0, h1⟩
theorem ordW_len' (id : List Nat) (n : Nat) : ((rawW id n).mergeSort leW).length = n := ordW_len id n
theorem ordL_get {id : List Nat} {n i : Nat} (h : i < (ordW id n).length) : (ordL id n).getD i 0 = ((ordW id n).getD i (0, 0)).1 := by
  unfold ordL
  simp [List.getD, h]
set_option maxHeartbeats 1000000 in
set_option maxRecDepth 100000 in
theorem order_of (HS : Sorts Try.prog) (id : List Nat) (n : Nat) (w : World) (hl : id.length = 32) (hb : ∀ c ∈ id, c < 256) (hn : 1 ≤ n) (hn2 : n ≤ 64) :
    Calls Try.prog 24 #[.agg (cellsOf id).toArray, .int .i64 n] w fun e w' => ∃ g cap, e = .returned (.tuple #[.slice (some ⟨g, 0, none⟩) n cap, .int .i64 0]) ∧ w'.ownsRow w.heap.size 3 1 (.slice (some ⟨g, 0, none⟩) n cap) n (intsN (ordL id n)) ∧ Below w.heap.size w w' := by
  have HR := Hf.mk (heap_alloc_new w (.cells (cellsOf id).toArray 23))
  have HBL : Hf (Below w.heap.size w (w.alloc (.cells (cellsOf id).toArray 23))) := ⟨(Below.refl _ _).alloc (Nat.le_refl _) _⟩
  have HL := Hf.mk hl
  have HB : Hf (∀ c ∈ id, c < 256) := ⟨hb⟩
  have HSO := Hf.mk HS
  have hsz : (w.alloc (.cells (cellsOf id).toArray 23)).heap.size = w.heap.size + 1 := by simp
  clear hl hb
  have HZ : Hf ((cellsOf id).toArray.size = 32) := ⟨by rw [List.size_toArray, cellsOf_length, HL.out]⟩
  have HCI : Hf (∀ j u, (cellsOf id)[j]? = some u → (cellsOf id).toArray[j]? = some u) := ⟨fun j u h => by rw [List.getElem?_toArray]; exact h⟩
  generalize (cellsOf id).toArray = zs at *
  have hn' : ¬ (n : Int) < 1 := by omega
  have hn2' : ¬ (64 : Int) < (n : Int) := by omega
  go_enter Try.func24, Try.ntmps24
  go_wp2
  generalize w.alloc (.cells zs 23) = W at HR HBL hsz ⊢
  go_loopw [6, 18] (fun v i wr => ∃ k : Nat, k ≤ n ∧ i = .int .i64 k ∧ Hf (wr.ownsRow (w.heap.size + 1) 105 2 v k (flatW (rawW id k))) ∧ Hf (wr.heap[w.heap.size]? = some (.cells zs 23)) ∧ Hf (Below w.heap.size w wr) ∧ w.heap.size + 1 ≤ wr.heap.size) (fun _ i _ => n - (intOf i).toNat)
  case atStart => exact ⟨0, by omega, rfl, ⟨World.ownsRow_nil _ _ _ _⟩, HR, HBL, by omega⟩
  case round =>
    obtain ⟨k, hk, rfl, HO, HR2, HW, hsz2⟩ := hrel
    by_cases hgo : k < n
    · have hgo2 : (k : Int) < (n : Int) := by omega
      have hk64 : k < 64 := by omega
      have hk64' : (k : Int) < 64 := by omega
      obtain ⟨i5, hi5, hz50, hz51, hz52⟩ := info_parts info5
      obtain ⟨i1, hi1, hz10, hz11, hz12⟩ := info_parts info105
      have HLC : Hf ((cellsOf id).length = 32 * 1) := ⟨by rw [cellsOf_length, HL.out]⟩
      have HLT : Hf (w.heap.size < wr.heap.size) := ⟨by omega⟩
      have HOLD : Hf (∀ o : Obj, ∀ b, some (⟨w.heap.size, 0, none⟩ : Addr) = some b → ∀ j u, (cellsOf id)[j]? = some u → (wr.alloc o).cell? (b.add j) = some u) := ⟨fun o b hb j u hu => by
        cases hb
        rw [Addr.add_lit]
        rw [Go.Joins.cell_of_block ((Below.heap_alloc _ _ _ HLT.out).trans HR2.out), Nat.zero_add]
        exact HCI.out j u hu⟩
      have HNEW : Hf (∀ j u, ([Value.int .u8 ((k : Int) + 1)] : List Value)[j]? = some u → (wr.alloc (.cells #[Value.int .u8 ((k : Int) + 1)] 5)).cell? ((⟨wr.heap.size, 0, none⟩ : Addr).add j) = some u) := ⟨fun j u hu => by
        rw [Addr.add_lit, Go.Joins.cell_of_block (heap_alloc_new _ _), Nat.zero_add]
        simpa using hu⟩
      have HB1 : Hf (∀ c ∈ id ++ [k + 1], c < 256) := ⟨fun c hc => by
        rcases List.mem_append.1 hc with h | h
        · exact HB.out c h
        · have := List.mem_singleton.1 h; omega⟩
      have HLEN : Hf ((id ++ [k + 1]).length = 33) := ⟨by rw [List.length_append, HL.out]; rfl⟩
      have HCE : Hf (cellsOf id ++ [Value.int .u8 ((k : Int) + 1)] = cellsOf (id ++ [k + 1])) := ⟨by simp [cellsOf]⟩
      have HB2 := Hf.mk (fun (w' : World) (g c : Nat) (h : w'.ownsRow (wr.alloc (.cells #[Value.int .u8 ((k : Int) + 1)] 5)).heap.size 5 1 (.slice (some ⟨g, 0, none⟩) (32 + 1) c) (32 + 1) (cellsOf id ++ [Value.int .u8 ((k : Int) + 1)])) => given_own HB1.out HLEN.out HCE.out h)
      have HSM := Hf.mk (fun (w' : World) (g c : Nat) (h : Given w' (some ⟨g, 0, none⟩) c (id ++ [k + 1])) => sum_any (some ⟨g, 0, none⟩) c (id ++ [k + 1]) w' h (by rw [HLEN.out]; omega))
      rw [HLEN.out] at HSM
      have HWG := Hf.mk (fun u => weigh_any (Sha.sum (id ++ [k + 1])) u (Sha.sum_len _) (Sha.sum_lt _))
      obtain ⟨wt, hwt⟩ : ∃ x, num ((Sha.sum (id ++ [k + 1])).take 8) = x := ⟨_, rfl⟩
      rw [hwt] at HWG
      have HRW : Hf (flatW (rawW id (k + 1)) = flatW (rawW id k) ++ [.int .i64 ((k : Int) + 1), .int .u64 wt]) := ⟨by rw [rawW_snoc, flatW_snoc]; unfold encW wOf; rw [hwt]; rfl⟩
      generalize (cellsOf (Sha.sum (id ++ [k + 1]))).toArray = zd at HSM HWG
      clear hwt
      have HMX : Hf (k + 1 ≤ maxLen) := ⟨by unfold maxLen; omega⟩
      have tok1 : True := trivial
      go_wp2_with (first
        | (at_builtin; have _t := tok1; refine wpList_append_grows _ rfl (.tmp 24) (.tmp 28) 54 rfl 5 i5 (.int .u8 0) 1 1 Try.underlying54 hi5 hz50 hz51 hz52 rfl (by decide) (some ⟨w.heap.size, 0, none⟩) 32 32 (cellsOf id) rfl (by simp) HLC.out (HOLD.out _) ⟨wr.heap.size, 0, none⟩ 1 1 [.int .u8 ((k : Int) + 1)] rfl rfl HNEW.out (by simp [Value.oneCell']) (by omega) (by unfold maxLen; omega) (by omega) ?_; clear tok1; intro v1 w1 hown1 hgrow1; obtain ⟨g1, cap1, rfl⟩ := Go.Joins.ownsRow_form hown1 (by decide); have HG1 := Hf.mk (HB2.out _ _ _ hown1); have HGR1 := Hf.mk hgrow1; clear hown1 hgrow1)
        | (go_at_call 38; (with_reducible refine (HSM.out _ _ _ HG1.out).mono ?_); rintro e w2 ⟨rfl, hb2⟩; have HB3 := Hf.mk hb2; clear hb2)
        | (go_at_call 15; (with_reducible refine (HWG.out _).mono ?_); rintro e w3 ⟨rfl, hb3⟩; have HB5 := Hf.mk (round_below HGR1.out HB3.out hb3); clear hb3; have HO3 := Hf.mk (owns_below HO.out (below_step HB5.out ((Below.refl _ _).alloc (Nat.le_refl _) (.cells #[Value.int .i64 ((k : Int) + 1), Value.int .u64 (wt : Nat)] 105)))))
        | (at_builtin; refine wpList_append_own _ rfl (.tmp 21) (.tmp 33) 103 rfl (w.heap.size + 1) 105 i1 (.agg #[.int .i64 0, .int .u64 0]) 2 16 Try.underlying103 hi1 hz10 hz11 hz12 rfl (by decide) _ k (flatW (rawW id k)) rfl HO3.out ⟨w3.heap.size, 0, none⟩ 1 1 [.int .i64 ((k : Int) + 1), .int .u64 (wt : Nat)] rfl rfl (new_cells2 _ _ _ _) (by simp [Value.oneCell']) HMX.out (by omega) (by have := HB5.out.size; simp; omega) ?_; intro v4 w4 hown4 hgrow4 _; have HO4 := Hf.mk hown4; have HB6 := Hf.mk (below_own HO3.out HB5.out hgrow4 hsz2); clear hown4 hgrow4))
      go_roundw
      case rel => exact ⟨k + 1, by omega, by go_num, ⟨by rw [HRW.out]; exact HO4.out⟩, ⟨(HB6.out.block _ (Nat.lt_succ_self _)).trans HR2.out⟩, ⟨HW.out.trans (HB6.out.mono (Nat.le_succ _))⟩, Nat.le_trans hsz2 HB6.out.size⟩
      case measure => simp [intOf]; omega
    · obtain rfl : k = n := by omega
      obtain ⟨g, cap, rfl⟩ := Go.Joins.ownsRow_form HO.out (by omega)
      have hs1 := HSO.out g cap (rawW id k) wr (own_holds HO.out) (own_block_lt HO.out) (by rw [rawW_len]; omega)
      rw [rawW_len] at hs1
      have HS1 := Hf.mk hs1
      have HGB : Hf (w.heap.size + 1 ≤ g) := ⟨owns_at HO.out g rfl⟩
      clear hs1
      go_wp2_with (go_at_call 57; (with_reducible refine HS1.out.mono ?_); rintro e w2 ⟨rfl, hh2, hb2, hg2⟩; have HH := Hf.mk hh2; have HB2 : Hf (Below w.heap.size w w2) := ⟨HW.out.trans (hb2.mono (by have := HGB.out; omega))⟩; have HG2 := Hf.mk hg2; clear hh2 hb2 hg2)
      go_loopw [8, 40] (fun v i wr2 => ∃ m : Nat, m ≤ k ∧ i = .int .i64 m ∧ Hf (wr2.ownsRow w2.heap.size 3 1 v m (intsN ((ordL id k).take m))) ∧ Hf (Below w2.heap.size w2 wr2)) (fun _ i _ => k - (intOf i).toNat)
      case atStart => exact ⟨0, by omega, rfl, ⟨World.ownsRow_nil _ _ _ _⟩, ⟨Below.refl _ _⟩⟩
      case round =>
        obtain ⟨m, hm, rfl, HO5, HW5⟩ := hrel
        by_cases hgo2 : m < k
        · have hgo3 : (m : Int) < (k : Int) := by omega
          have hx := holds_at (holds_below HH.out HG2.out HW5.out) (i := m) (by rw [ordW_len']; exact hgo2)
          obtain ⟨x, hxe⟩ : ∃ x, (ordW id k).getD m (0, 0) = x := ⟨_, rfl⟩
          have HXL : Hf (intsN ((ordL id k).take (m + 1)) = intsN ((ordL id k).take m) ++ [.int .i64 (x.1 : Nat)]) := ⟨by rw [take_snoc (by rw [ordL_len]; exact hgo2), intsN_snoc, ordL_get (by rw [ordW_len]; exact hgo2), hxe]⟩
          rw [show (rawW id k).mergeSort leW = ordW id k from rfl, hxe] at hx
          obtain ⟨c0, c1⟩ := hx
          clear hxe
          obtain ⟨i3, hi3, hz30, hz31, hz32⟩ := info_parts info3
          have HLW : Hf (w2.heap.size ≤ wr.heap.size) := ⟨HW5.out.size⟩
          have HO6 := Hf.mk ((HO5.out.alloc (.cells #[.int .i64 (x.1 : Nat), .int .u64 (x.2 : Nat)] 105)).alloc (.cells #[.int .i64 (x.1 : Nat)] 3))
          have HN6 : Hf (∀ j u, ([Value.int .i64 (x.1 : Nat)] : List Value)[j]? = some u → ((wr.alloc (.cells #[.int .i64 (x.1 : Nat), .int .u64 (x.2 : Nat)] 105)).alloc (.cells #[.int .i64 (x.1 : Nat)] 3)).cell? ((⟨wr.heap.size + 1, 0, none⟩ : Addr).add j) = some u) := ⟨by
            have := new_cells1 (wr.alloc (.cells #[.int .i64 (x.1 : Nat), .int .u64 (x.2 : Nat)] 105)) 3 (.int .i64 (x.1 : Nat))
            rw [World.size_alloc] at this
            exact this⟩
          have HMX : Hf (m + 1 ≤ maxLen) := ⟨by unfold maxLen; omega⟩
          go_wp2_with (at_builtin; refine wpList_append_own _ rfl (.tmp 44) (.tmp 47) 34 rfl w2.heap.size 3 i3 (.int .i64 0) 1 8 Try.underlying34 hi3 hz30 hz31 hz32 rfl (by decide) _ m (intsN ((ordL id k).take m)) rfl HO6.out ⟨wr.heap.size + 1, 0, none⟩ 1 1 [.int .i64 (x.1 : Nat)] rfl rfl HN6.out (by simp [Value.oneCell']) HMX.out (by omega) (by have := HLW.out; simp; omega) ?_; intro v4 w4 hown4 hgrow4 _; have HO7 := Hf.mk hown4; have HB7 := Hf.mk (below_own HO6.out ((Below.refl _ _).alloc (Nat.le_refl _) (.cells #[.int .i64 (x.1 : Nat), .int .u64 (x.2 : Nat)] 105)) hgrow4 HLW.out); clear hown4 hgrow4)
          go_roundw
          case rel => exact ⟨m + 1, by omega, by go_num, ⟨by rw [HXL.out]; exact HO7.out⟩, ⟨HW5.out.trans HB7.out⟩⟩
          case measure => simp [intOf]; omega
        · obtain rfl : m = k := by omega
          obtain ⟨g2, cap2, rfl⟩ := Go.Joins.ownsRow_form HO5.out (by omega)
          have e1 : (ordL id m).take m = ordL id m := List.take_of_length_le (by rw [ordL_len]; exact Nat.le_refl _)
          rw [e1] at HO5
          have HOE := Hf.mk (Go.Joins.ownsRow_le HO5.out HB2.out.size)
          go_wp2
          go_ret2
          exact ⟨g2, cap2, rfl, HOE.out, below_step HB2.out HW5.out⟩
end Go.Proofs.Ytaaepadhapfkoaa
