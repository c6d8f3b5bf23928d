/-
  Digest: the id of a text.
-/
import Derived.Test.YtaaepadhapfkoaaDgH
namespace Go.Proofs.Ytaaepadhapfkoaa
set_option linter.unusedSimpArgs false
set_option linter.unusedVariables false
open Go.RowKit Go.Maps

/-- the bytes of a string -/
def bytN (s : ByteArray) : List Nat := s.data.toList.map (·.toNat)
theorem bytN_len (s : ByteArray) : (bytN s).length = s.size := by unfold bytN; rw [List.length_map]; rfl
theorem bytN_lt (s : ByteArray) : ∀ c ∈ bytN s, c < 256 := by
  intro c hc
  obtain ⟨x, _, rfl⟩ := List.mem_map.1 hc
  exact x.toNat_lt
/-- the id's bytes of so many pairs -/
def gotL (b : List Nat) (k : Nat) : List Nat := (List.range 32).map fun j => if j < k then (dgt (b.getD (2 * j) 0) * 16 + dgt (b.getD (2 * j + 1) 0)).toNat else 0
def gotAll (b : List Nat) (k : Nat) : Prop := ∀ j, j < k → 0 ≤ dgt (b.getD (2 * j) 0) ∧ 0 ≤ dgt (b.getD (2 * j + 1) 0)
instance (b : List Nat) (k : Nat) : Decidable (gotAll b k) := by unfold gotAll; infer_instance
def getS (b : List Nat) : List Nat × Int := if b.length = 64 ∧ gotAll b 32 then (gotL b 32, 0) else (gotL b 0, 10)
theorem gotL_len (b : List Nat) (k : Nat) : (gotL b k).length = 32 := by simp [gotL]
theorem dgt_lt (c : Nat) : dgt c < 16 := by 
  unfold dgt
  split
  · omega
  · split <;> omega
theorem gotL_lt (b : List Nat) (k : Nat) : ∀ c ∈ gotL b k, c < 256 := by
  intro c hc
  obtain ⟨j, _, rfl⟩ := List.mem_map.1 hc
  have h1 := dgt_lt (b.getD (2 * j) 0)
  have h2 := dgt_lt (b.getD (2 * j + 1) 0)
  by_cases h : j < k
  · simp only [if_pos h]; omega
  · simp only [if_neg h]; omega
theorem getS_fit (b : List Nat) : (getS b).1.length = 32 ∧ ∀ c ∈ (getS b).1, c < 256 := by
  unfold getS
  split
  · exact ⟨gotL_len _ _, gotL_lt _ _⟩
  · exact ⟨gotL_len _ _, gotL_lt _ _⟩
theorem gotL_get (b : List Nat) (k j : Nat) (h : j < 32) : (gotL b k).getD j 0 = if j < k then (dgt (b.getD (2 * j) 0) * 16 + dgt (b.getD (2 * j + 1) 0)).toNat else 0 := by
  simp [gotL, List.getD, h]
theorem gotL_set (b : List Nat) (k : Nat) (h : k < 32) : (cellsOf (gotL b k)).toArray.setIfInBounds k (.int .u8 ((dgt (b.getD (2 * k) 0) * 16 + dgt (b.getD (2 * k + 1) 0)).toNat : Nat)) = (cellsOf (gotL b (k + 1))).toArray := by
  apply Array.ext_getElem?
  intro j
  rw [Array.getElem?_setIfInBounds]
  by_cases hj : j < 32
  · have c1 := cellsOf_at (l := gotL b k) (j := j) (by rw [gotL_len]; exact hj)
    have c2 := cellsOf_at (l := gotL b (k + 1)) (j := j) (by rw [gotL_len]; exact hj)
    simp only [List.getElem?_toArray, List.size_toArray, cellsOf_length, gotL_len]
    rw [c1, c2, gotL_get _ _ _ hj, gotL_get _ _ _ hj]
    by_cases e : k = j
    · subst e
      rw [if_pos rfl, if_pos h, if_pos (by omega)]
    · rw [if_neg e]
      by_cases e2 : j < k
      · rw [if_pos e2, if_pos (by omega)]
      · rw [if_neg e2, if_neg (by omega)]
  · simp only [List.getElem?_toArray, List.size_toArray, cellsOf_length, gotL_len]
    rw [List.getElem?_eq_none (by rw [cellsOf_length, gotL_len]; omega), List.getElem?_eq_none (by rw [cellsOf_length, gotL_len]; omega), if_neg (by omega)]
theorem results_cell_tmp {P : Program} {fn : Func} {p u : Tmp} {ty : TypeId} (h : fn.results = #[.cell p ty, .tmp u]) (tmps : Array Value) (w : World) (g : Nat) (t : TypeId) (cs : Array Value) (fr : Nat × Nat) (d : TypeDesc)
    (hp : tmps.getD p undef = .pointer (some ⟨g, 0, none⟩)) (hg : w.heap[g]? = some (.cells cs t fr))
    (hu : P.underlying ty = some d) (hd : (match d with | .struct _ | .array _ _ => true | _ => false) = true) (hi : (P.info? ty).map (·.size) = some cs.size) :
    (results fn tmps).run P w = .ok (.tuple #[.agg cs, tmps.getD u undef]) w := by
  have hp' : tmps[p]?.getD undef = .pointer (some ⟨g, 0, none⟩) := by simpa using hp
  simp [results, h, hp', asAddr, run_loadVar_row w g t ty cs fr d hg hu hd hi]
def z32 : Array Value := #[Value.int IntKind.u8 0, Value.int IntKind.u8 0, Value.int IntKind.u8 0, Value.int IntKind.u8 0, Value.int IntKind.u8 0, Value.int IntKind.u8 0, Value.int IntKind.u8 0, Value.int IntKind.u8 0, Value.int IntKind.u8 0, Value.int IntKind.u8 0, Value.int IntKind.u8 0, Value.int IntKind.u8 0, Value.int IntKind.u8 0, Value.int IntKind.u8 0, Value.int IntKind.u8 0, Value.int IntKind.u8 0, Value.int IntKind.u8 0, Value.int IntKind.u8 0, Value.int IntKind.u8 0, Value.int IntKind.u8 0, Value.int IntKind.u8 0, Value.int IntKind.u8 0, Value.int IntKind.u8 0, Value.int IntKind.u8 0, Value.int IntKind.u8 0, Value.int IntKind.u8 0, Value.int IntKind.u8 0, Value.int IntKind.u8 0, Value.int IntKind.u8 0, Value.int IntKind.u8 0, Value.int IntKind.u8 0, Value.int IntKind.u8 0]
theorem z32_eq (b : List Nat) : (cellsOf (gotL b 0)).toArray = z32 := by
  have e : gotL b 0 = List.replicate 32 0 := by
    rw [List.eq_replicate_iff]
    refine ⟨gotL_len b 0, fun x hx => ?_⟩
    obtain ⟨j, _, rfl⟩ := List.mem_map.1 hx
    exact if_neg (Nat.not_lt_zero j)
  rw [e]
  rfl
theorem bytN_at (s : ByteArray) (i : Nat) (h : i < s.size) : (s[i]).toNat = (bytN s).getD i 0 := by
  unfold bytN
  rw [List.getD_eq_getElem?_getD, List.getElem?_map]
  have : s.data.toList[i]? = some s[i] := by
    rw [Array.getElem?_toList, Array.getElem?_eq_getElem (by exact h)]
    rfl
  rw [this]
  rfl
theorem index_str (s : ByteArray) (i c : Nat) (h : i < s.size) (hc : (bytN s).getD i 0 = c) (u : World) {n : Int} (hn : n = i) : (Instr.index 9 (.string s) (.int .i64 n)).run Try.prog u = .ok (.int .u8 (c : Nat)) u := by
  subst hn
  rw [← hc, ← bytN_at s i h]
  simp [Instr.index, asIntOf, run_underlying Try.underlying9, h]
theorem u8_push (m c : Nat) (hm : m < 16) (hc : c < 16) : bits .or .u8 ((m : Int) * 16) (c : Int) = ((m * 16 + c : Nat) : Int) := by
  have : ∀ m : Fin 16, ∀ c : Fin 16, bits .or .u8 ((m.val : Int) * 16) (c.val : Int) = ((m.val * 16 + c.val : Nat) : Int) := by decide +kernel
  exact this ⟨m, hm⟩ ⟨c, hc⟩
theorem wpList_lookup_hex {ops : Array Oper} {rest : List Oper} {o : Oper} {a : Act} {Q : Exit → Act → World → Prop} (w : World) (hg : o.guard = none) (m x : Operand) (hop : o.op = Op.lookup 99 m x true) (b : Nat) (hm : a.eval m = .map (some b))
    (hown : w.ownsMap Try.prog 5 (plainElem Try.prog 5) b 16 (hexM 16)) (c : Nat) (hc : c < 256) (hx : a.eval x = .int .u8 c) (v : Int) (hv : (if 0 ≤ dgt c then dgt c else 0) = v) (t : Bool) (ht : decide (0 ≤ dgt c) = t)
    (h : wpList Try.prog ops Q rest (a.put o.dst (.tuple #[.int .u8 v, .bool t])) w) : wpList Try.prog ops Q (o :: rest) a w := by
  refine wpList_lookup_own_ok_int w hg m x 99 hop 5 5 .u8 law5 Try.underlying99 Try.underlying5 (zero5 w) b 16 (hexM 16) hm hown _ (.int .u8 c) hx (keyOf_int_mk Try.underlying5 (wf_u8 hc)) ?_
  intro n hat _
  have h1 := hexM_at c hc
  rw [hat] at h1
  have h2 : n = v := h1.trans hv
  rw [hexM_has c hc, ht, h2]
  exact h
set_option maxHeartbeats 1000000 in
set_option maxRecDepth 100000 in
theorem get_any (s : ByteArray) (w : World) : Calls Try.prog 17 #[.string s] w fun e w' => e = .returned (.tuple #[.agg (cellsOf (getS (bytN s)).1).toArray, .int .i64 (getS (bytN s)).2]) ∧ Below w.heap.size w w' := by
  generalize hr : getS (bytN s) = r
  have HGS := Hf.mk hr
  clear hr
  have hz : (z32).size = 32 := rfl
  have HZ := Hf.mk hz
  have HZO : Hf (z32.all (·.oneCell') = true) := ⟨by decide +kernel⟩
  clear hz
  go_enter Try.func17, Try.ntmps17
  go_upto_region 2 with fail
  rw [show (#[Value.int IntKind.u8 0, Value.int IntKind.u8 0, Value.int IntKind.u8 0, Value.int IntKind.u8 0, Value.int IntKind.u8 0, Value.int IntKind.u8 0, Value.int IntKind.u8 0, Value.int IntKind.u8 0, Value.int IntKind.u8 0, Value.int IntKind.u8 0, Value.int IntKind.u8 0, Value.int IntKind.u8 0, Value.int IntKind.u8 0, Value.int IntKind.u8 0, Value.int IntKind.u8 0, Value.int IntKind.u8 0, Value.int IntKind.u8 0, Value.int IntKind.u8 0, Value.int IntKind.u8 0, Value.int IntKind.u8 0, Value.int IntKind.u8 0, Value.int IntKind.u8 0, Value.int IntKind.u8 0, Value.int IntKind.u8 0, Value.int IntKind.u8 0, Value.int IntKind.u8 0, Value.int IntKind.u8 0, Value.int IntKind.u8 0, Value.int IntKind.u8 0, Value.int IntKind.u8 0, Value.int IntKind.u8 0, Value.int IntKind.u8 0] : Array Value) = z32 from rfl]
  have h1 : ((w.alloc (.cells z32 23)).alloc (.cells z32 23)).heap[w.heap.size]? = some (.cells z32 23) := (Below.heap_alloc _ _ _ (by simp)).trans (heap_alloc_new _ _)
  have h2 := heap_alloc_new (w.alloc (.cells z32 23)) (.cells z32 23)
  rw [World.size_alloc] at h2
  have hw : Below w.heap.size w ((w.alloc (.cells z32 23)).alloc (.cells z32 23)) := ((Below.refl _ _).alloc (Nat.le_refl _) _).alloc (by simp) _
  have hsz : ((w.alloc (.cells z32 23)).alloc (.cells z32 23)).heap.size = w.heap.size + 2 := by simp
  have H1 := Hf.mk h1
  have H2 := Hf.mk h2
  have HW := Hf.mk hw
  clear h1 h2 hw
  by_cases hs : s.size = 64
  · have HS := Hf.mk hs
    have hs' : (s.size : Int) = 64 := by omega
    clear hs
    generalize (w.alloc (.cells z32 23)).alloc (.cells z32 23) = W at *
    go_upto_region 4 with fail
    go_wp2_with (go_at_call 55; refine (digits_any _).mono ?_; rintro e w1 ⟨rfl, hown, hb1⟩; rw [hsz] at hown; have HO := Hf.mk hown; have HB1 := Hf.mk hb1; clear hown hb1)
    have HL := Hf.mk (show w1.heap[w.heap.size]? = some (.cells z32 23) from (HB1.out.block _ (by omega)).trans H1.out)
    have HR := Hf.mk (show w1.heap[w.heap.size + 1]? = some (.cells z32 23) from (HB1.out.block _ (by omega)).trans H2.out)
    have HW1 := Hf.mk (below_step HW.out (HB1.out.mono (Nat.le_refl _)))
    have HWS : Hf (W.heap.size = w.heap.size + 2) := ⟨hsz⟩
    go_loopw [16] (fun i wr => ∃ k : Nat, k ≤ 32 ∧ i = .int .i64 k ∧ Hf (gotAll (bytN s) k) ∧ Hf (wr.heap[w.heap.size]? = some (.cells z32 23)) ∧ Hf (wr.heap[w.heap.size + 1]? = some (.cells (cellsOf (gotL (bytN s) k)).toArray 23)) ∧ Hf (wr.ownsMap Try.prog 5 (plainElem Try.prog 5) (w.heap.size + 2) 16 (hexM 16)) ∧ Hf (Below w.heap.size w wr)) (fun i _ => 32 - (intOf i).toNat)
    case atStart => exact ⟨0, by omega, rfl, ⟨fun j hj => absurd hj (Nat.not_lt_zero j)⟩, HL, ⟨by rw [z32_eq]; exact HR.out⟩, HO, HW1⟩
    case round =>
      obtain ⟨k, hk, rfl, HA, HL, HR, HO, HW1⟩ := hrel
      by_cases hgo : k < 32
      · have hgo2 : (k : Int) < 32 := by omega
        have i1 := bytN_at s (2 * k) (by rw [HS.out]; omega)
        have i2 := bytN_at s (2 * k + 1) (by rw [HS.out]; omega)
        obtain ⟨c1, hc1⟩ : ∃ c, (bytN s).getD (2 * k) 0 = c := ⟨_, rfl⟩
        obtain ⟨c2, hc2⟩ : ∃ c, (bytN s).getD (2 * k + 1) 0 = c := ⟨_, rfl⟩
        have l1 : c1 < 256 := by rw [← hc1]; exact Sha.get_lt (by omega) (bytN_lt s) _
        have l2 : c2 < 256 := by rw [← hc2]; exact Sha.get_lt (by omega) (bytN_lt s) _
        have HIX1 : ∀ u, (Instr.index 9 (.string s) (.int .i64 (2 * (k : Int)))).run Try.prog u = .ok (.int .u8 (c1 : Nat)) u := fun u => index_str s (2 * k) c1 (by rw [HS.out]; omega) hc1 u (by omega)
        have HIX2 : ∀ u, (Instr.index 9 (.string s) (.int .i64 (2 * (k : Int) + 1))).run Try.prog u = .ok (.int .u8 (c2 : Nat)) u := fun u => index_str s (2 * k + 1) c2 (by rw [HS.out]; omega) hc2 u (by omega)
        have HC1 := Hf.mk hc1
        have HC2 := Hf.mk hc2
        have HL1 := Hf.mk l1
        have HL2 := Hf.mk l2
        clear hc1 hc2 l1 l2 i1 i2
        have tok1 : True := trivial
        by_cases g1 : 0 ≤ dgt c1
        · by_cases g2 : 0 ≤ dgt c2
          · obtain ⟨m1, hm1⟩ : ∃ m : Nat, dgt c1 = m := ⟨(dgt c1).toNat, by omega⟩
            obtain ⟨m2, hm2⟩ : ∃ m : Nat, dgt c2 = m := ⟨(dgt c2).toNat, by omega⟩
            have n1 : m1 < 16 := by have := dgt_lt c1; omega
            have n2 : m2 < 16 := by have := dgt_lt c2; omega
            have HV1 : Hf ((if 0 ≤ dgt c1 then dgt c1 else 0) = (m1 : Int)) := ⟨by rw [if_pos g1]; exact hm1⟩
            have HV2 : Hf ((if 0 ≤ dgt c2 then dgt c2 else 0) = (m2 : Int)) := ⟨by rw [if_pos g2]; exact hm2⟩
            have HT1 : Hf (decide (0 ≤ dgt c1) = true) := ⟨decide_eq_true g1⟩
            have HT2 : Hf (decide (0 ≤ dgt c2) = true) := ⟨decide_eq_true g2⟩
            have HA3 : Hf (gotAll (bytN s) (k + 1)) := ⟨fun j hj => by
              by_cases e : j = k
              · subst e; rw [HC1.out, HC2.out]; exact ⟨g1, g2⟩
              · exact HA.out j (by omega)⟩
            have hset := gotL_set (bytN s) k hgo
            rw [HC1.out, HC2.out, hm1, hm2, show ((m1 : Int) * 16 + (m2 : Int)).toNat = m1 * 16 + m2 by omega] at hset
            have HSET := Hf.mk hset
            have c0 := Go.Joins.cell_of_block HR.out k
            rw [show (cellsOf (gotL (bytN s) k)).toArray[k]? = some (.int .u8 ((gotL (bytN s) k).getD k 0 : Nat)) by simpa using cellsOf_at (l := gotL (bytN s) k) (j := k) (by rw [gotL_len]; exact hgo)] at c0
            have f0 := Go.Joins.unfrozen_of_block HR.out k
            generalize (gotL (bytN s) k).getD k 0 = c3 at c0
            have hor := u8_push m1 m2 n1 n2
            have n1' : (m1 : Int) < 16 := by omega
            have n2' : (m2 : Int) < 16 := by omega
            clear g1 g2 hm1 hm2 hset
            go_wp2_with (first
              | (at_lookup; have _t := tok1; refine wpList_lookup_hex _ rfl _ _ rfl (w.heap.size + 2) rfl HO.out c1 HL1.out rfl _ HV1.out _ HT1.out ?_; clear tok1)
              | (at_lookup; refine wpList_lookup_hex _ rfl _ _ rfl (w.heap.size + 2) rfl HO.out c2 HL2.out rfl _ HV2.out _ HT2.out ?_))
            go_roundw
            case rel => exact ⟨k + 1, by omega, by go_num, HA3, ⟨(Below.heap_setCell _ _ _ _ (by simp)).trans HL.out⟩, ⟨by rw [← HSET.out]; exact Go.Joins.block_setCell HR.out _⟩, ⟨HO.out.setCell (by simp) _⟩, ⟨HW1.out.setCell (by simp) _⟩⟩
            case measure => simp [intOf]; omega
          · have HF : Hf (r = (gotL (bytN s) 0, 10)) := ⟨by rw [← HGS.out]; unfold getS; rw [if_neg (fun h => g2 (by rw [← HC2.out]; exact (h.2 k hgo).2))]⟩
            have HA2 : Hf (Ending.returned (.tuple #[.agg z32, .int .i64 10]) = Ending.returned (.tuple #[.agg (cellsOf r.1).toArray, .int .i64 r.2])) := ⟨by rw [HF.out, ← z32_eq (bytN s)]⟩
            obtain ⟨m1, hm1⟩ : ∃ m : Nat, dgt c1 = m := ⟨(dgt c1).toNat, by omega⟩
            have HV1 : Hf ((if 0 ≤ dgt c1 then dgt c1 else 0) = (m1 : Int)) := ⟨by rw [if_pos g1]; exact hm1⟩
            have HV2 : Hf ((if 0 ≤ dgt c2 then dgt c2 else 0) = (0 : Int)) := ⟨by rw [if_neg g2]⟩
            have HT1 : Hf (decide (0 ≤ dgt c1) = true) := ⟨decide_eq_true g1⟩
            have HT2 : Hf (decide (0 ≤ dgt c2) = false) := ⟨decide_eq_false g2⟩
            clear g1 g2 hm1
            go_wp2_with (first
              | (at_lookup; have _t := tok1; refine wpList_lookup_hex _ rfl _ _ rfl (w.heap.size + 2) rfl HO.out c1 HL1.out rfl _ HV1.out _ HT1.out ?_; clear tok1)
              | (at_lookup; refine wpList_lookup_hex _ rfl _ _ rfl (w.heap.size + 2) rfl HO.out c2 HL2.out rfl _ HV2.out _ HT2.out ?_)
              | (with_reducible refine wpList_store_row rfl 23 _ _ rfl w.heap.size z32 rfl rfl 23 z32 HL.out (size23.trans (by rw [HZ.out])) rfl HZO.out ?_; rw [setRow_self wr w.heap.size z32 23 (0, 0) HL.out]))
            (try simp only [Exit.inBlock, Exit.then])
            refine bodyPost_ret (results_cell_tmp rfl _ _ w.heap.size 23 z32 (0, 0) _ rfl HL.out Try.underlying23 rfl (size23.trans (by rw [HZ.out]))) rfl ?_
            exact ⟨HA2.out, HW1.out⟩
        · have HF : Hf (r = (gotL (bytN s) 0, 10)) := ⟨by rw [← HGS.out]; unfold getS; rw [if_neg (fun h => g1 (by rw [← HC1.out]; exact (h.2 k hgo).1))]⟩
          have HA2 : Hf (Ending.returned (.tuple #[.agg z32, .int .i64 10]) = Ending.returned (.tuple #[.agg (cellsOf r.1).toArray, .int .i64 r.2])) := ⟨by rw [HF.out, ← z32_eq (bytN s)]⟩
          obtain ⟨v2, hv2⟩ : ∃ v, (if 0 ≤ dgt c2 then dgt c2 else 0) = v := ⟨_, rfl⟩
          obtain ⟨t2, ht2⟩ : ∃ v, decide (0 ≤ dgt c2) = v := ⟨_, rfl⟩
          have HV1 : Hf ((if 0 ≤ dgt c1 then dgt c1 else 0) = (0 : Int)) := ⟨by rw [if_neg g1]⟩
          have HV2 := Hf.mk hv2
          have HT1 : Hf (decide (0 ≤ dgt c1) = false) := ⟨decide_eq_false g1⟩
          have HT2 := Hf.mk ht2
          clear g1 hv2 ht2
          go_wp2_with (first
            | (at_lookup; have _t := tok1; refine wpList_lookup_hex _ rfl _ _ rfl (w.heap.size + 2) rfl HO.out c1 HL1.out rfl _ HV1.out _ HT1.out ?_; clear tok1)
            | (at_lookup; refine wpList_lookup_hex _ rfl _ _ rfl (w.heap.size + 2) rfl HO.out c2 HL2.out rfl _ HV2.out _ HT2.out ?_)
            | (with_reducible refine wpList_store_row rfl 23 _ _ rfl w.heap.size z32 rfl rfl 23 z32 HL.out (size23.trans (by rw [HZ.out])) rfl HZO.out ?_; rw [setRow_self wr w.heap.size z32 23 (0, 0) HL.out]))
          (try simp only [Exit.inBlock, Exit.then])
          refine bodyPost_ret (results_cell_tmp rfl _ _ w.heap.size 23 z32 (0, 0) _ rfl HL.out Try.underlying23 rfl (size23.trans (by rw [HZ.out]))) rfl ?_
          exact ⟨HA2.out, HW1.out⟩
      · obtain rfl : k = 32 := by omega
        have HF : Hf (r = (gotL (bytN s) 32, 0)) := ⟨by rw [← HGS.out]; unfold getS; rw [if_pos ⟨by rw [bytN_len]; exact HS.out, HA.out⟩]⟩
        have HA2 : Hf (Ending.returned (.tuple #[.agg (cellsOf (gotL (bytN s) 32)).toArray, .int .i64 0]) = Ending.returned (.tuple #[.agg (cellsOf r.1).toArray, .int .i64 r.2])) := ⟨by rw [HF.out]⟩
        have HZ2 : Hf ((cellsOf (gotL (bytN s) 32)).toArray.size = 32) := ⟨by rw [List.size_toArray, cellsOf_length, gotL_len]⟩
        have HO2 : Hf ((cellsOf (gotL (bytN s) 32)).toArray.all (·.oneCell') = true) := ⟨by
          rw [Array.all_eq_true']
          intro v hv
          exact cellsOf_one _ v (by simpa using hv)⟩
        generalize (cellsOf (gotL (bytN s) 32)).toArray = zs at *
        go_wp2_with (first
          | (with_reducible refine wpList_load_row rfl 23 _ rfl (w.heap.size + 1) rfl 23 zs (0, 0) _ HR.out Try.underlying23 rfl (size23.trans (by rw [HZ2.out])) ?_)
          | (with_reducible refine wpList_store_row rfl 23 _ _ rfl w.heap.size zs rfl rfl 23 z32 HL.out (size23.trans (by rw [HZ2.out])) (by rw [HZ.out, HZ2.out]) HO2.out ?_))
        (try simp only [Exit.inBlock, Exit.then])
        refine bodyPost_ret (results_cell_tmp rfl _ _ w.heap.size 23 zs (0, 0) _ rfl (setRow_heap _ _ z32 zs 23 (0, 0) HL.out) Try.underlying23 rfl (size23.trans (by rw [HZ2.out]))) rfl ?_
        exact ⟨HA2.out, HW1.out.trans ⟨rfl, rfl, rfl, by simp, fun i hi => setRow_other _ _ i _ (by omega)⟩⟩
  · have hs' : ¬ (s.size : Int) = 64 := by omega
    have HA : Hf (getS (bytN s) = (gotL (bytN s) 0, 10)) := ⟨by unfold getS; rw [if_neg (fun h => hs (by rw [← bytN_len]; exact h.1))]⟩
    rw [HGS.out] at HA
    have HA2 : Hf (Ending.returned (.tuple #[.agg z32, .int .i64 10]) = Ending.returned (.tuple #[.agg (cellsOf r.1).toArray, .int .i64 r.2])) := ⟨by rw [HA.out, ← z32_eq (bytN s)]⟩
    clear hs HA
    generalize (w.alloc (.cells z32 23)).alloc (.cells z32 23) = W at *
    go_upto_region 3 with fail
    go_wp2_with (first
      | (with_reducible refine wpList_store_row rfl 23 _ _ rfl w.heap.size z32 rfl rfl 23 z32 H1.out (size23.trans (by rw [HZ.out])) rfl HZO.out ?_; rw [setRow_self W w.heap.size z32 23 (0, 0) H1.out]))
    refine bodyPost_ret (results_cell_tmp rfl _ _ w.heap.size 23 z32 (0, 0) _ rfl H1.out Try.underlying23 rfl (size23.trans (by rw [HZ.out]))) rfl ?_
    exact ⟨HA2.out, HW.out⟩
end Go.Proofs.Ytaaepadhapfkoaa
