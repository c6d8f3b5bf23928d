/-
  Digest: Sum: the tail.
-/
import Derived.Test.YtaaepadhapfkoaaDgR
import Derived.LoopN
namespace Go.Proofs.Ytaaepadhapfkoaa
set_option linter.unusedSimpArgs false
set_option linter.unusedVariables false
open Go.RowKit
attribute [local go_sem] Oper.semAt_some

theorem gate_dst {P : Program} {ops : Array Oper} {Q : Exit → Act → World → Prop} {o : Oper} {rest : List Oper} {a : Act} {W : World} {N : Tmp} (_hN : o.dst = some N) (h : wpList P ops Q (o :: rest) a W) : wpList P ops Q (o :: rest) a W := h
theorem owned_form {w : World} {base n : Nat} {v : Value} {xs : List Value} (h : w.ownsRow base 5 1 v n xs) (hn : 0 < n) : ∃ g cap, v = .slice (some ⟨g, 0, none⟩) n cap ∧ base ≤ g ∧ n ≤ cap := by
  rcases h.2 with ⟨_, h0⟩ | ⟨g, cap, cur, rfl, hg, _, hc, _⟩
  · omega
  · exact ⟨g, cap, rfl, hg, hc⟩
theorem own_base {w : World} {base n : Nat} {v : Value} {xs : List Value} (h : w.ownsRow base 5 1 v n xs) : ∀ k, v.ownBlock = some k → base ≤ k := by
  intro k hk
  rcases h.2 with ⟨rfl, _⟩ | ⟨g, cap, cur, rfl, hg, _⟩
  · simp [Value.ownBlock] at hk
  · simp [Value.ownBlock] at hk; omega
theorem owns_reads {w : World} {base : Nat} {g cap : Nat} {l : List Nat} (hl : ∀ c ∈ l, c < 256) (h : w.ownsRow base 5 1 (.slice (some ⟨g, 0, none⟩) l.length cap) l.length (cellsOf l)) : Reads w (some ⟨g, 0, none⟩) l := by
  rcases h.2 with ⟨e, _⟩ | ⟨g', cap', cur, e, hg, hh, hn, hm, hs, ht⟩
  · cases e
  · simp only [Value.slice.injEq, Option.some.injEq, Addr.mk.injEq] at e
    obtain ⟨⟨rfl, _⟩, _, rfl⟩ := e
    refine ⟨hl, fun i hi => ⟨g, 0, rfl, (Array.getElem?_eq_some_iff.1 hh).1, ?_⟩⟩
    rw [cell_of_row _ g (0 + i) cur 5 _ hh, Nat.zero_add]
    have e1 : (cur.toList.take (l.length * 1))[i]? = (cellsOf l)[i]? := by rw [ht]
    rw [List.getElem?_take, if_pos (by omega)] at e1
    have e2 : cur[i]? = cur.toList[i]? := by simp
    rw [e2, e1]
    exact cellsOf_at hi
/-- what lies before the padding is told: bytes from the last whole block on, padded -/
theorem be_modk : ∀ (k n : Nat), Sha.be (n % 256 ^ k) k = Sha.be n k
  | 0, n => rfl
  | k + 1, n => by
    show Sha.be (n % 256 ^ (k + 1) / 256) k ++ [n % 256 ^ (k + 1) % 256] = Sha.be (n / 256) k ++ [n % 256]
    have h1 : n % 256 ^ (k + 1) / 256 = n / 256 % 256 ^ k := by rw [Nat.pow_succ, Nat.mul_comm (256 ^ k) 256, Nat.mod_mul_right_div_self]
    have h2 : n % 256 ^ (k + 1) % 256 = n % 256 := Nat.mod_mod_of_dvd n ⟨256 ^ k, by rw [Nat.pow_succ, Nat.mul_comm]⟩
    rw [h1, h2, be_modk k]
theorem be_mod8 (n : Nat) : Sha.be (n % 18446744073709551616) 8 = Sha.be n 8 := be_modk 8 n
theorem tail_eq (l : List Nat) (q z : Nat) (hq : l.length / 64 * 64 = q) (hz : (120 - (l.length % 64 + 1) % 64) % 64 = z) : Sha.tail l = ((l.drop q ++ [128]) ++ List.replicate z 0) ++ Sha.be (l.length * 8) 8 := by
  unfold Sha.tail
  rw [hq, hz]
theorem zero23 (w : World) : (zeroValue 23).run Try.prog w = .ok (.agg (Array.replicate 32 (.int .u8 0))) w := by kernel_rfl
theorem arr32_zero : Array.replicate 32 (Value.int .u8 0) = (cellsOf (List.replicate 32 0)).toArray := by rw [cellsOf_zeros]; rfl
theorem zero23' (w : World) : (zeroValue 23).run Try.prog w = .ok (.agg (cellsOf (List.replicate 32 0)).toArray) w := by rw [← arr32_zero]; exact zero23 w
theorem drop_given {w : World} {ad : Addr} {c : Nat} {l : List Nat} (h : Given w (some ad) c l) (q : Nat) (hq : q ≤ l.length) (hlt : q < c) : Given w (some (ad.add q)) (c - q) (l.drop q) := by
  refine ⟨⟨fun x hx => h.1.1 x (List.mem_of_mem_drop hx), fun i hi => ?_⟩, by rw [List.length_drop]; have := h.2.1; omega, by have := h.2.2.1; omega, fun e => by cases e⟩
  have hi2 : i < l.length - q := by simpa using hi
  obtain ⟨b, off, e, hb, hc⟩ := h.1.2 (q + i) (by omega)
  simp only [Option.some.injEq] at e
  subst e
  have hadd : (⟨b, off, none⟩ : Addr).add q = ⟨b, off + q, none⟩ := by unfold Addr.add; split <;> simp_all
  exact ⟨b, off + q, by rw [hadd], hb, by rw [getD_drop, Nat.add_assoc]; exact hc⟩
theorem sum_store {w7 w8 : World} {z64 z8 ks : Array Value} (hw : ((w7.alloc (.cells z64 131)).alloc (.cells z8 134)).setRow w7.heap.size ks = w8) :
    w8.heap[w7.heap.size]? = some (.cells ks 131 (0, 0)) ∧ w8.heap[w7.heap.size + 1]? = some (.cells z8 134 (0, 0)) ∧ Below w7.heap.size w7 w8 := by
  have h1 : ((w7.alloc (.cells z64 131)).alloc (.cells z8 134)).heap[w7.heap.size]? = some (.cells z64 131 (0, 0)) := (Below.heap_alloc _ _ _ (by simp)).trans (heap_alloc_new _ _)
  have h2 := heap_alloc_new (w7.alloc (.cells z64 131)) (.cells z8 134)
  rw [World.size_alloc] at h2
  refine ⟨?_, ?_, ?_⟩
  · rw [← hw]; exact setRow_heap _ _ z64 ks 131 (0, 0) h1
  · rw [← hw]; exact (setRow_other _ _ _ _ (by omega)).trans h2
  · rw [← hw]; exact Below.setRow' (((Below.refl _ _).alloc (Nat.le_refl _) _).alloc (by simp) _) (Nat.le_refl _) _
theorem sum_store2 {w7 w8 w9 : World} {z8 ks hs : Array Value} (h : w8.heap[w7.heap.size]? = some (.cells ks 131 (0, 0)) ∧ w8.heap[w7.heap.size + 1]? = some (.cells z8 134 (0, 0)) ∧ Below w7.heap.size w7 w8) (hw : w8.setRow (w7.heap.size + 1) hs = w9) :
    w9.heap[w7.heap.size]? = some (.cells ks 131 (0, 0)) ∧ w9.heap[w7.heap.size + 1]? = some (.cells hs 134 (0, 0)) ∧ Below w7.heap.size w7 w9 := by
  obtain ⟨h1, h2, h3⟩ := h
  refine ⟨?_, ?_, ?_⟩
  · rw [← hw]; exact (setRow_other _ _ _ _ (by omega)).trans h1
  · rw [← hw]; exact setRow_heap _ _ z8 hs 134 (0, 0) h2
  · rw [← hw]; exact Below.setRow' h3 (by omega) _
theorem below_name {B : Nat} {a w : World} (h : Hf (Below B a w)) : ∃ wy, wy = w := ⟨w, rfl⟩
theorem empty_given (w : World) (ad : Addr) (c : Nat) (h : c ≤ 1000000) : Given w (some ad) c [] := ⟨Reads.nil w _, by simp, by omega, fun e => by cases e⟩
set_option maxHeartbeats 3200000 in
set_option maxRecDepth 100000 in
theorem sum_any (A : Option Addr) (c : Nat) (l : List Nat) (w : World) (h : Given w A c l) (hl : l.length ≤ 9223372036854775807) :
    Calls Try.prog 38 #[.slice A l.length c] w fun e w' => e = .returned (.agg (cellsOf (Sha.sum l)).toArray) ∧ Below w.heap.size w w' := by
  obtain ⟨z32, hz32⟩ : ∃ z, (cellsOf (List.replicate 32 0)).toArray = z := ⟨_, rfl⟩
  have hz := zero23'
  rw [hz32] at hz
  obtain ⟨W0, hW0⟩ : ∃ W0, w.alloc (.cells z32 23) = W0 := ⟨_, rfl⟩
  have hb0 : Below w.heap.size w W0 := by rw [← hW0]; exact (Below.refl _ _).alloc (Nat.le_refl _) _
  have hi0 : W0.heap[w.heap.size]? = some (.cells z32 23 (0, 0)) := by rw [← hW0]; exact heap_alloc_new _ _
  have HB0 := Hf.mk hb0
  have HI0 := Hf.mk hi0
  have HZ := Hf.mk hz32
  clear hb0 hi0 hz32
  obtain ⟨q, hq⟩ : ∃ q, l.length / 64 * 64 = q := ⟨_, rfl⟩
  have HQ := Hf.mk hq
  obtain ⟨z, hzz⟩ : ∃ z, (120 - (l.length % 64 + 1) % 64) % 64 = z := ⟨_, rfl⟩
  have HT := Hf.mk (tail_eq l q z hq hzz)
  have hq1 : q ≤ l.length := by omega
  have hq2 : (l.length : Int) / 64 * 64 = (q : Int) := by omega
  have HG := Hf.mk h
  refine (callsIn_wide (n := 5)).1 (callsIn_of_wp_marks Try.func38 rfl trivial ?_ rfl)
  refine wpIn_wide.2 ?_
  refine wp_np ?_
  simp only [Try.ntmps38, List.size_toArray, List.length_cons, List.length_nil, Nat.reduceAdd, Nat.reduceSub, Array.replicate_succ, Array.replicate_zero, List.push_toArray, List.append_toArray, List.nil_append, List.cons_append]
  go_upto_region 1 with fail
  obtain ⟨i0, hi, hz0, hz1, hz2⟩ := info_parts info5
  go_cut [3] from 3 to 19 (fun v3 wx => Hf (wx.ownsRow W0.heap.size 5 1 v3 (l.length - q + 1) (cellsOf (l.drop q ++ [128]))) ∧ Hf (Below W0.heap.size W0 wx))
  case first =>
    cases A with
    | none =>
      obtain ⟨rfl, rfl⟩ := HG.out.empty
      have hq0 : q = 0 := by simpa using hq.symm
      subst hq0
      have HC : Hf (Calls Try.prog 75 #[.slice none 0 0] W0 fun e w' => ∃ v, e = .returned v ∧ w'.ownsRow W0.heap.size 5 1 v (([] : List Nat).length - 0) (cellsOf (([] : List Nat).drop 0)) ∧ Below W0.heap.size W0 w') := ⟨cloneB_any none 0 [] W0 (HG.out.below HB0.out) (by simp)⟩
      go_wp2_with (first
        | (go_at_call 75; (with_reducible refine HC.out.mono ?_); rintro e w1 ⟨v1, rfl, ho, hb⟩; have HO1 := Hf.mk ho; have HB1 := Hf.mk hb; have hle := hb.size; clear ho hb)
        | (at_builtin; refine wpList_append_own _ rfl (.tmp 17) (.tmp 18) 54 rfl W0.heap.size 5 i0 (.int .u8 0) 1 1 Try.underlying54 hi hz0 hz1 hz2 rfl (by decide) v1 (([] : List Nat).length - 0) (cellsOf (([] : List Nat).drop 0)) rfl (HO1.out.alloc _) ⟨w1.heap.size, 0, none⟩ 1 1 [.int .u8 128] rfl rfl (cell_one_new _ _ _) (by simp [Value.oneCell']) (by unfold maxLen; simp) (by simp) (by simp; omega) ?_; intro v2 w2 ho hg _; have HO2 : Hf (w2.ownsRow W0.heap.size 5 1 v2 (([] : List Nat).length - 0 + 1) (cellsOf (([] : List Nat).drop 0 ++ [128]))) := ⟨by rw [cellsOf_append]; exact ho⟩; have HB2 : Hf (Below W0.heap.size W0 w2) := ⟨(HB1.out.alloc hle _).grown hg (by simp; omega) (own_base HO1.out)⟩; clear ho hg))
      go_meet
      case rel => exact ⟨HO2, HB2⟩
    | some ad =>
      by_cases hcq : c = q
      · have hcq' := hcq.symm
        subst hcq'
        have hql : l.length = q := by have := HG.out.2.1; omega
        have hd : l.drop q = [] := by rw [← hql]; exact List.drop_length
        have HC : Hf (Calls Try.prog 75 #[.slice (some ad) (l.length - q) 0] W0 fun e w' => ∃ v, e = .returned v ∧ w'.ownsRow W0.heap.size 5 1 v (l.length - q) (cellsOf (l.drop q)) ∧ Below W0.heap.size W0 w') := ⟨by
          rw [hd, hql, Nat.sub_self]
          exact cloneB_any (some ad) 0 [] W0 (empty_given _ _ _ (by omega)) (by simp)⟩
        clear hd
        have HQL := Hf.mk hql
        clear hql
        go_wp2_with (first
          | (go_at_call 75; (with_reducible refine HC.out.mono ?_); rintro e w1 ⟨v1, rfl, ho, hb⟩; have HO1 := Hf.mk ho; have HB1 := Hf.mk hb; have hle := hb.size; clear ho hb)
          | (at_builtin; refine wpList_append_own _ rfl (.tmp 17) (.tmp 18) 54 rfl W0.heap.size 5 i0 (.int .u8 0) 1 1 Try.underlying54 hi hz0 hz1 hz2 rfl (by decide) v1 (l.length - q) (cellsOf (l.drop q)) rfl (HO1.out.alloc _) ⟨w1.heap.size, 0, none⟩ 1 1 [.int .u8 128] rfl rfl (cell_one_new _ _ _) (by simp [Value.oneCell']) (by unfold maxLen; omega) (by omega) (by simp; omega) ?_; intro v2 w2 ho hg _; have HO2 : Hf (w2.ownsRow W0.heap.size 5 1 v2 (l.length - q + 1) (cellsOf (l.drop q ++ [128]))) := ⟨by rw [cellsOf_append]; exact ho⟩; have HB2 : Hf (Below W0.heap.size W0 w2) := ⟨(HB1.out.alloc hle _).grown hg (by simp; omega) (own_base HO1.out)⟩; clear ho hg))
        go_meet
        case rel => exact ⟨HO2, HB2⟩
      · have hlt : q < c := by have := HG.out.2.1; omega
        have HC : Hf (Calls Try.prog 75 #[.slice (some (ad.add q)) (l.length - q) (c - q)] W0 fun e w' => ∃ v, e = .returned v ∧ w'.ownsRow W0.heap.size 5 1 v (l.length - q) (cellsOf (l.drop q)) ∧ Below W0.heap.size W0 w') := ⟨by
          have := cloneB_any (some (ad.add q)) (c - q) (l.drop q) W0 (drop_given (HG.out.below HB0.out) q hq1 hlt) (by rw [List.length_drop]; omega)
          rwa [List.length_drop] at this⟩
        go_wp2_with (first
          | (go_at_call 75; (with_reducible refine HC.out.mono ?_); rintro e w1 ⟨v1, rfl, ho, hb⟩; have HO1 := Hf.mk ho; have HB1 := Hf.mk hb; have hle := hb.size; clear ho hb)
          | (at_builtin; refine wpList_append_own _ rfl (.tmp 17) (.tmp 18) 54 rfl W0.heap.size 5 i0 (.int .u8 0) 1 1 Try.underlying54 hi hz0 hz1 hz2 rfl (by decide) v1 (l.length - q) (cellsOf (l.drop q)) rfl (HO1.out.alloc _) ⟨w1.heap.size, 0, none⟩ 1 1 [.int .u8 128] rfl rfl (cell_one_new _ _ _) (by simp [Value.oneCell']) (by unfold maxLen; omega) (by omega) (by simp; omega) ?_; intro v2 w2 ho hg _; have HO2 : Hf (w2.ownsRow W0.heap.size 5 1 v2 (l.length - q + 1) (cellsOf (l.drop q ++ [128]))) := ⟨by rw [cellsOf_append]; exact ho⟩; have HB2 : Hf (Below W0.heap.size W0 w2) := ⟨(HB1.out.alloc hle _).grown hg (by simp; omega) (own_base HO1.out)⟩; clear ho hg))
        go_meet
        case rel => exact ⟨HO2, HB2⟩
  case rest =>
    obtain ⟨HO, HB⟩ := hcut
    have hz1k : z ≤ 63 := by omega
    have ht1 : l.length - q ≤ 63 := by omega
    have ht2 : l.length - q = l.length % 64 := by omega
    obtain ⟨t1, ht⟩ : ∃ t1, l.length - q + 1 = t1 := ⟨_, rfl⟩
    have ht64 : t1 ≤ 64 := by omega
    have ht0 : 1 ≤ t1 := by omega
    obtain ⟨m, hm⟩ : ∃ m, t1 % 64 = m := ⟨_, rfl⟩
    have hm63 : m ≤ 63 := by omega
    have hme : (t1 : Int) % 64 = (m : Int) := by omega
    have hm120 : (m : Int) ≤ 120 := by omega
    have hm121 : (0 : Int) ≤ 120 - (m : Int) := by omega
    have hze : (120 - (m : Int)) % 64 = (z : Int) := by rw [← hzz]; omega
    rw [ht] at HO
    obtain ⟨g3, cap3, hv3, _, _⟩ := owned_form HO.out (by omega)
    obtain ⟨v4, w4, hr4, ho4, hg4⟩ := run_zeros W0.heap.size 54 HO.out (by omega) z (by omega) (by omega) HB.out.size
    have HR4 := Hf.mk hr4
    have hob := own_base HO.out
    rw [← cellsOf_zeros, ← cellsOf_append] at ho4
    have HO4 := Hf.mk ho4
    have HB4 := Hf.mk (HB.out.grown hg4 HB.out.size hob)
    subst hv3
    obtain ⟨nb, hnb⟩ : ∃ nb, l.length * 8 % 18446744073709551616 = nb := ⟨_, rfl⟩
    have hnb2 : (l.length : Int) * 8 % 18446744073709551616 = (nb : Int) := by omega
    have hnb3 : nb ≤ 18446744073709551615 := by omega
    rw [← be_mod8, hnb] at HT
    have HDG := Hf.mk (fun u => digitsOf_any nb 8 u (by omega) (by omega) (by omega))
    have HTE := Hf.mk ht
    have HTL : Hf (t1 + z + 8 = (Sha.tail l).length) := ⟨by
      rw [HT.out]
      simp only [List.length_append, List.length_drop, List.length_replicate, List.length_cons, List.length_nil, Sha.be_len]
      omega⟩
    clear hm hr4 ho4 hg4 hob hnb ht ht1 ht2 hzz hq hq2 HO
    have HP2 : Hf (∀ v4' w4', v4' = v4 → w4' = w4 → Hf (w4'.ownsRow W0.heap.size 5 1 v4' (t1 + z) (cellsOf ((l.drop q ++ [128]) ++ List.replicate z 0))) ∧ Hf (Below W0.heap.size W0 w4')) := ⟨by rintro _ _ rfl rfl; exact ⟨HO4, HB4⟩⟩
    clear HO4 HB4
    go_upto_region 2 with fail
    go_cut [3] from 20 to 26 (fun v3 wx => Hf (wx.ownsRow W0.heap.size 5 1 v3 (t1 + z) (cellsOf ((l.drop q ++ [128]) ++ List.replicate z 0))) ∧ Hf (Below W0.heap.size W0 wx))
    case first =>
      go_wp2_with (at_builtin; go_loud (refine Lib.wpList_append_run _ rfl (.tmp 20) (.tmp 25) 54 3 rfl (.slice (some ⟨g3, 0, none⟩) t1 cap3) (.int .i64 ((120 - (m : Int)) % 64)) rfl rfl v4 w4 (by rw [hze]; exact HR4.out) ?_))
      go_meet
      case rel => exact HP2.out _ _ rfl rfl
    case rest =>
      obtain ⟨HO2, HB2⟩ := hcut
      obtain ⟨t2, ht2⟩ : ∃ t2, t1 + z = t2 := ⟨_, rfl⟩
      have ht127 : t2 ≤ 127 := by omega
      have HTL2 : Hf (t2 + 8 = (Sha.tail l).length) := ⟨by rw [← ht2]; exact HTL.out⟩
      rw [ht2] at HO2
      obtain ⟨g4, cap4, hv4, _, _⟩ := owned_form HO2.out (by omega)
      have hle2 := HB2.out.size
      clear HTL
      obtain ⟨w2, rfl⟩ := below_name HB2
      subst hv4
      have hwr : IntKind.u64.wrap ((l.length : Int) * 8) = (nb : Int) := by rw [IntKind.wrap_u64]; exact hnb2
      have hl8 : (0 : Int) ≤ (l.length : Int) := by omega
      have hl9 : (l.length : Int) ≤ 9223372036854775807 := by omega
      clear hnb2
      go_upto_region 3 with fail
      go_cut [3] from 27 to 33 (fun v3 wx => Hf (wx.ownsRow W0.heap.size 5 1 v3 (Sha.tail l).length (cellsOf (Sha.tail l))) ∧ Hf (Below W0.heap.size W0 wx))
      case first =>
        go_wp2_with (first
          | (go_at_call 76; go_loud (refine (HDG.out _).mono ?_); go_loud (rintro e w1 ⟨rfl, rfl⟩))
          | (at_builtin; go_loud (refine wpList_append_own _ rfl (.tmp 27) (.tmp 32) 54 rfl W0.heap.size 5 i0 (.int .u8 0) 1 1 Try.underlying54 hi hz0 hz1 hz2 rfl (by decide) (.slice (some ⟨g4, 0, none⟩) t2 cap4) t2 (cellsOf ((l.drop q ++ [128]) ++ List.replicate z 0)) rfl (HO2.out.alloc _) ⟨w2.heap.size, 0, none⟩ 8 8 (cellsOf (Sha.be nb 8)) rfl rfl (reads_heap (Sha.be_lt 8 nb) (heap_alloc_new _ _)).news (cellsOf_one _) (by unfold maxLen; omega) (by omega) (by simp; omega) ?_); intro v5 w5 ho hg _; (have HO5 : Hf (w5.ownsRow W0.heap.size 5 1 v5 (Sha.tail l).length (cellsOf (Sha.tail l))) := ⟨by rw [← HTL2.out, HT.out, cellsOf_append _ (Sha.be nb 8)]; exact ho⟩); (have HB5 : Hf (Below W0.heap.size W0 w5) := ⟨(HB2.out.alloc hle2 _).grown hg (by simp; omega) (own_base HO2.out)⟩); clear ho hg))
        go_meet
        case rel => exact ⟨HO5, HB5⟩
      case rest =>
        obtain ⟨HO3, HB3⟩ := hcut
        clear HO2 HB2 HDG HTL2 HT HP2 HR4
        obtain ⟨w5, rfl⟩ := below_name HB3
        have htl := Sha.tail_len l
        obtain ⟨T, hT⟩ : ∃ T, (Sha.tail l).length = T := ⟨_, rfl⟩
        obtain ⟨n2, hn2⟩ : ∃ n2, T / 64 = n2 := ⟨_, rfl⟩
        have hT2 : T = 64 * n2 := by omega
        rw [hT] at htl HO3
        rw [hn2] at htl
        obtain ⟨n1, hn1⟩ : ∃ n1, l.length / 64 = n1 := ⟨_, rfl⟩
        have HN1 := Hf.mk hn1
        have hq3 : q = 64 * n1 := by have := HQ.out; omega
        have HTT := Hf.mk hT
        have HN2 := Hf.mk hn2
        obtain ⟨g5, cap5, hv5, hg5, hc5⟩ := owned_form HO3.out (by omega)
        subst hv5
        have HG5 := Hf.mk hg5
        have hz64 := zero131'
        have hz8 := zero134'
        obtain ⟨z8, hz8e⟩ : ∃ cs, arrU 8 (fun _ => 0) = cs := ⟨_, rfl⟩
        obtain ⟨z64, hz64e⟩ : ∃ cs, arrU 64 (fun _ => 0) = cs := ⟨_, rfl⟩
        obtain ⟨ks, hks⟩ : ∃ cs, arrU 64 (fun i => Sha.K.getD i 0) = cs := ⟨_, rfl⟩
        obtain ⟨hs, hhs⟩ : ∃ cs, arrU 8 (fun i => Sha.H0.l.getD i 0) = cs := ⟨_, rfl⟩
        have s1 : Hf (z8.size = 8) := ⟨by rw [← hz8e]; exact arrU_size _ _⟩
        have s2 : Hf (z64.size = 64) := ⟨by rw [← hz64e]; exact arrU_size _ _⟩
        have s3 : Hf (ks.size = 64) := ⟨by rw [← hks]; exact arrU_size _ _⟩
        have s4 : Hf (hs.size = 8) := ⟨by rw [← hhs]; exact arrU_size _ _⟩
        have s5 : Hf (ks.all (·.oneCell') = true) := ⟨by rw [← hks]; exact arrU_one _ _⟩
        have s6 : Hf (hs.all (·.oneCell') = true) := ⟨by rw [← hhs]; exact arrU_one _ _⟩
        have HC77 := Hf.mk constants_any
        have HC78 := Hf.mk first_any
        rw [hz8e] at hz8
        rw [hz64e] at hz64
        rw [hks] at HC77
        rw [hhs] at HC78
        have HKS := Hf.mk hks
        have HHS := Hf.mk hhs
        clear hz8e hz64e hks hhs hn2 hn1 hT
        clear hze hme hm120 hm121 hm63 hz1k ht64 ht0 ht127 hl8 hl9 hwr
        go_upto_region 5 with (first
          | (go_at_call 77; (with_reducible refine (HC77.out _).mono ?_); rintro e w6 ⟨rfl, hb⟩; have HB6 := Hf.mk hb; clear hb)
          | (go_at_call 78; (with_reducible refine (HC78.out _).mono ?_); rintro e w7 ⟨rfl, hb⟩; have HB7 := Hf.mk hb; clear hb)
          | (with_reducible refine wpList_store_row rfl 131 _ _ rfl w7.heap.size ks rfl rfl 131 z64 ((Below.heap_alloc _ _ _ (by simp)).trans (heap_alloc_new _ _)) (size131.trans (by rw [s3.out])) (s2.out.trans s3.out.symm) s5.out ?_; generalize hw8 : World.setRow _ _ _ = w8; have hS := sum_store hw8; have HS8 := Hf.mk hS; clear hw8 hS)
          | (with_reducible refine wpList_store_row rfl 134 _ _ rfl (w7.heap.size + 1) hs rfl rfl 134 z8 HS8.out.2.1 (size134.trans (by rw [s4.out])) (s1.out.trans s4.out.symm) s6.out ?_; generalize hw9 : World.setRow _ _ _ = w9; have hS := sum_store2 HS8.out hw9; have HS9 := Hf.mk hS; clear hw9 hS HS8))
        have HW9 : Hf (Below W0.heap.size W0 w9 ∧ Below w5.heap.size w5 w9 ∧ W0.heap.size ≤ w7.heap.size ∧ w5.heap.size ≤ w7.heap.size ∧ w7.heap.size + 1 < w9.heap.size) := ⟨by
          have e1 := below_step (below_step HB6.out HB7.out) HS9.out.2.2
          have e2 := below_step HB3.out e1
          have := HB6.out.size
          have := HB7.out.size
          have := HB3.out.size
          have := (Array.getElem?_eq_some_iff.1 HS9.out.2.1).1
          exact ⟨e2, e1, by omega, by omega, this⟩⟩
        have HRK : Hf (RowU w9 w7.heap.size 131 64 kF) := ⟨by have := HS9.out.1; rw [← HKS.out] at this; exact this⟩
        have HRS : Hf (RowU w9 (w7.heap.size + 1) 134 8 (stF Sha.H0)) := ⟨by have := HS9.out.2.1; rw [← HHS.out] at this; exact this⟩
        have HGV : Hf (Given w9 A c l) := ⟨HG.out.below (below_step HB0.out HW9.out.1)⟩
        have HTR : Hf (Reads w9 (some ⟨g5, 0, none⟩) (Sha.tail l)) := ⟨by
          have h1 := HO3.out
          rw [← HTT.out] at h1
          exact (owns_reads (Sha.tail_lt l HG.out.1.1) h1).below HW9.out.2.1⟩
        have HI9 : Hf (w9.heap[w.heap.size]? = some (.cells z32 23 (0, 0))) := ⟨(HW9.out.1.block _ (Array.getElem?_eq_some_iff.1 HI0.out).1).trans HI0.out⟩
        have HLT : Hf (g5 < w5.heap.size) := ⟨by
          rcases HO3.out.2 with ⟨e, _⟩ | ⟨g', cap', cur, e, hg, hh, _⟩
          · cases e
          · simp only [Value.slice.injEq, Option.some.injEq, Addr.mk.injEq] at e
            obtain ⟨⟨rfl, _⟩, _, _⟩ := e
            exact (Array.getElem?_eq_some_iff.1 hh).1⟩
        clear HS9 HKS HHS HB6 HB7 HB3 HO3 HI0 HC77 HC78 hz64 hz8 s1 s2 s3 s4 s5 s6
        have hqc : q ≤ c := by have := HG.out.2.1; omega
        have hq2 : (l.length : Int) / 64 * 64 = (q : Int) := by have := HQ.out; omega
        have hqc2 : (q : Int) ≤ (c : Int) := by omega
        dsimp only [Act.put]
        go_cut [43, 44, 45] from 36 to 45 (fun v43 v44 v45 wx => ∃ A', Hf (0 < n1 → Reads w A' l) ∧ wx = w9.alloc (.cells #[.slice A' q c, .slice (some ⟨g5, 0, none⟩) (64 * n2) cap5] 54) ∧ v43 = .slice (some ⟨w9.heap.size, 0, none⟩) 2 2 ∧ v44 = .int .i64 2 ∧ v45 = .int .i64 0)
        case first =>
          cases A with
          | none =>
            obtain ⟨hl0, rfl⟩ := HG.out.empty
            have hq0 : q = 0 := by omega
            have hln : l.length = 0 := by rw [hl0]; rfl
            clear hl0
            go_wp2_with fail
            go_meet
            case rel => exact ⟨none, ⟨fun h0 => by omega⟩, by rw [show q = 0 by omega], rfl, rfl, rfl⟩
          | some ad =>
            have hA : 0 < n1 → Reads w (some (ad.add 0)) l := by
              intro h0
              have hl1 : 0 < l.length := by omega
              obtain ⟨b, off, e, _⟩ := HG.out.1.form hl1
              simp only [Option.some.injEq] at e
              subst e
              exact HG.out.1
            have hA2 : 0 < n1 → Reads w (some ad) l := fun _ => HG.out.1
            have HA1 := Hf.mk hA
            have HA2 := Hf.mk hA2
            clear hA hA2
            go_wp2_with fail
            go_meet
            case rel => exact ⟨some ad, HA2, by rw [show q = 64 * n1 by omega], rfl, rfl, rfl⟩
        case rest =>
          obtain ⟨A', HA', rfl, rfl, rfl, rfl⟩ := hcut
          obtain ⟨gk, hgk⟩ : ∃ gk, w7.heap.size = gk := ⟨_, rfl⟩
          rw [hgk] at HW9 HRK HRS ⊢
          have HGW := Hf.mk hgk
          obtain ⟨gs, hgs⟩ : ∃ gs, gk + 1 = gs := ⟨_, rfl⟩
          rw [hgs] at HRS HW9 ⊢
          clear hgk
          subst hq3
          obtain ⟨row, hrow⟩ : ∃ row, #[Value.slice A' (64 * n1) c, .slice (some ⟨g5, 0, none⟩) (64 * n2) cap5] = row := ⟨_, rfl⟩
          obtain ⟨g10, hg10⟩ : ∃ g10, w9.heap.size = g10 := ⟨_, rfl⟩
          rw [hrow]
          obtain ⟨W10, hW10⟩ : ∃ W10, w9.alloc (.cells row 54) = W10 := ⟨_, rfl⟩
          have HS0 : Hf (SAt w gk gs g10 g5 row z32 (Sha.tail l) Sha.H0 W10) := ⟨by
            have hb : Below w9.heap.size w9 W10 := by rw [← hW10]; exact (Below.refl _ _).alloc (Nat.le_refl _) _
            obtain ⟨e1, e2, e3, e4, e5⟩ := HW9.out
            have e6 := HLT.out
            have e7 := HB0.out.size
            have e8 : W0.heap.size = w.heap.size + 1 := by rw [← hW0]; simp
            exact ⟨HRK.out.below hb, HRS.out.below hb, below_step (below_step HB0.out e1) hb, by rw [← hW10, ← hg10]; exact heap_alloc_new _ _, (hb.block _ (Array.getElem?_eq_some_iff.1 HI9.out).1).trans HI9.out, HTR.out.below hb, by omega, by omega, by omega, by omega⟩⟩
          have hlt10 : g10 < W10.heap.size := (Array.getElem?_eq_some_iff.1 HS0.out.fr).1
          rw [hg10, hW10]
          clear HRK HRS HGV HTR HI9 HLT hW10 hg10 HW9 hgs
          have c0 : W10.cell? ⟨g10, 0, none⟩ = some (.slice A' (64 * n1) c) := by rw [cell_of_row _ g10 0 _ _ _ HS0.out.fr, ← hrow]; rfl
          have c1 : row[1]? = some (.slice (some ⟨g5, 0, none⟩) (64 * n2) cap5) := by rw [← hrow]; rfl
          clear hrow
          have hA0 : ∃ b0 off0, 0 < n1 → A' = some ⟨b0, off0, none⟩ := by
            by_cases h0 : 0 < n1
            · obtain ⟨b, off, e, _⟩ := (HA'.out h0).form (by have := HQ.out; omega)
              exact ⟨b, off, fun _ => e⟩
            · exact ⟨0, 0, fun h => absurd h h0⟩
          obtain ⟨b0, off0, hA0⟩ := hA0
          have HAA := Hf.mk hA0
          clear hA0
          go_wp2_with fail
          refine wp_loop_rounds 3 ?_
          rw [rounds_succ]
          have hN1 : n1 ≤ 144115188075855871 := by have := HQ.out; omega
          have HCH := Hf.mk chunk_any
          go_wp2_with (go_at_call 79; refine (HCH.out _ _ _ _).mono ?_; rintro e w' ⟨rfl, rfl⟩)
          obtain ⟨q1, q2, hb11, hz11⟩ := two_cells W10 (.slice A' (64 * n1) c) (.int .i64 64) 54 3
          generalize (W10.alloc (Obj.cells #[Value.slice A' (64 * n1) c] 54)).alloc (Obj.cells #[Value.int IntKind.i64 64] 3) = W11 at q1 q2 hb11 hz11 ⊢
          have HS1 := Hf.mk (HS0.out.below hb11)
          have HC1 : Hf (64 * n1 ≤ c) := ⟨by have := HG.out.2.1; have := HQ.out; omega⟩
          have hgs10 := HS0.out.l2
          refine (wpIn_wide (n := 5)).1 ?_
          refine wpIn_rangeFunc_ownF (F := Fence.wide) (n := 5) rfl (by decide) (gf := 103) (lb := #[.pointer (some ⟨W10.heap.size, 0, none⟩), .pointer (some ⟨W10.heap.size + 1, 0, none⟩)]) rfl trivial (enters_of Try.func103 (by kernel_rfl) rfl)
            (chunk_stops 4 (by decide) gs W10.heap.size (W10.heap.size + 1) W11.heap.size n1 c A' b0 off0 HAA.out hN1 HC1.out W11 ⟨by omega, by omega⟩ ⟨by omega, by omega⟩ q1 q2) KG.trans (fun W l o o' => kg_putObj W l o o') (Below.refl _ _) (fun _ => rfl)
            (IB w gk gs g10 g5 row z32 (Sha.tail l) l Sha.H0 W11.heap.size (fun W => ∀ d, (none : Option Nat) = some d → W.heap[d]? = some (.deferred (some [])))) (fun _ _ _ => False) (IB_own w gk gs g10 g5 row z32 (Sha.tail l) l Sha.H0 W11.heap.size (by omega) none (fun d e => by cases e)) (fun _ _ _ _ _ hs _ _ => hs) ⟨HS1.out, Nat.le_refl _, fun d e => by cases e⟩
            (fun x => { tmps := #[Value.slice A l.length c, undef, Value.pointer (some ⟨w.heap.size, 0, none⟩), Value.slice (some ⟨g5, 0, none⟩) (64 * n2) cap5, Value.pointer (some ⟨gk, 0, none⟩), Value.pointer (some ⟨gs, 0, none⟩), u6, Value.slice A' (64 * n1) c, (.slice (some ⟨b0, off0 + 64 * x.val, none⟩) 64 64), u9, u10, u11, u12, u13, u14, u15, u16, u17, u18, u19, u20, u21, u22, u23, u24, u25, u26, u27, u28, u29, u30, u31, u32, u33, Value.agg ks, Value.agg hs, u36, u37, u38, u39, u40, u41, u42, Value.slice (some ⟨g10, 0, none⟩) 2 2, Value.int .i64 2, Value.int .i64 0, Value.bool true, Value.pointer (some ⟨g10, 0, none⟩), Value.slice A' (64 * n1) c, Value.slice A' (64 * n1) c, Value.func (Fn.func 103) #[] #[Value.pointer (some ⟨W10.heap.size, 0, none⟩), Value.pointer (some ⟨W10.heap.size + 1, 0, none⟩)], (.slice (some ⟨b0, off0 + 64 * x.val, none⟩) 64 64), undef, undef, undef, undef, undef, undef, undef, undef, undef, undef, undef, undef, undef, undef, undef, undef, undef, undef, undef], defers := [] }) ?assign ?body ?done ?stop
          case assign =>
            intro l' x W K hK
            gi_wp2
            exact hK
          case body =>
            rintro l' pre x W ⟨hs1, hB1, _⟩ _
            have hxN : x.val < n1 := x.2
            have hR0 : Reads W (some ⟨b0, off0 + 64 * x.val, none⟩) (Sha.part l x.val) := by
              have h0 : 0 < n1 := by omega
              have h1 := HA'.out h0
              rw [HAA.out h0] at h1
              have hq := HQ.out
              exact (h1.part (64 * x.val) 64 (by omega)).below hs1.hb
            have hL0 : (Sha.part l x.val).length = 64 := by
              unfold Sha.part
              have hq := HQ.out
              rw [List.length_take, List.length_drop]
              omega
            have HCD := Hf.mk (done_any b0 (off0 + 64 * x.val) 64 (Sha.part l x.val) (foldB l Sha.H0 pre) W hR0 hL0 (Nat.le_refl _) (by omega) (foldB_ok l Sha.H0_ok pre))
            have hfs := hs1.fs
            have hfk := hs1.fk
            have HEND := Hf.mk (fun W2 W3 (hb : Below W.heap.size W W2) => SAt.done (st' := Sha.block (foldB l Sha.H0 pre) (Sha.part l x.val)) (W' := W3) hs1 hb)
            rw [← foldB_snoc] at HCD HEND
            have z1 := arrU_size 8 (stF (foldB l Sha.H0 pre))
            have z2 := arrU_size 64 kF
            have z3 := arrU_size 8 (stF (foldB l Sha.H0 (pre ++ [x])))
            have z4 := arrU_one 8 (stF (foldB l Sha.H0 (pre ++ [x])))
            unfold RowU at hfs hfk
            generalize arrU 8 (stF (foldB l Sha.H0 pre)) = ss at z1 hfs HCD
            generalize arrU 64 kF = kk at z2 hfk HCD
            generalize arrU 8 (stF (foldB l Sha.H0 (pre ++ [x]))) = s3 at z3 z4 HCD HEND
            have hlg : gs < W.heap.size := (Array.getElem?_eq_some_iff.1 hfs).1
            have Z1 := Hf.mk z1
            have Z2 := Hf.mk z2
            have Z3 := Hf.mk z3
            have Z4 := Hf.mk z4
            have HFS := Hf.mk hfs
            have HFK := Hf.mk hfk
            have HS1' := Hf.mk hs1
            clear z1 z2 z3 z4 hfs hfk hs1 hR0 hL0 HS1 HS0 q1 q2
            gi_wp2_with (first
              | (with_reducible refine wpListIn_load_rowD rfl 134 _ rfl gs rfl 134 ss (0, 0) _ HFS.out Try.underlying134 rfl (size134.trans (by rw [Z1.out])) ?_)
              | (with_reducible refine wpListIn_load_rowD rfl 131 _ rfl gk rfl 131 kk (0, 0) _ HFK.out Try.underlying131 rfl (size131.trans (by rw [Z2.out])) ?_)
              | (refine ⟨trivial, ?_⟩; gi_at_call 80; (refine (CallsIn.inRound l' (callsIn_wide.2 HCD.out)).mono ?_); rintro e w2' ⟨rfl, hb⟩; have HB2 := Hf.mk hb; clear hb)
              | (with_reducible refine wpListIn_store_rowD rfl 134 _ _ rfl gs s3 rfl rfl 134 ss ((HB2.out.block _ hlg).trans HFS.out) (size134.trans (by rw [Z3.out])) (Z1.out.trans Z3.out.symm) Z4.out ?_; generalize hw3 : World.setRow _ _ _ = w3; have HE := Hf.mk (HEND.out w2' w3 HB2.out hw3); clear hw3))
            exact ⟨HE.out.2.1, fun k hk hne => HE.out.2.2.1 k (by omega) hne, HE.out.1, by have := HE.out.2.2.2; omega, fun d e => by cases e⟩
          case stop =>
            rintro D c pre W _ _ h _
            exact h.elim
          case done =>
            rintro D ys W hD hY ⟨hs1, hB1, _⟩ hK
            have HS2 := Hf.mk hs1
            have hy := foldB_all l Sha.H0 ys hY
            rw [hy] at HS2
            clear hs1 hy hY HS1 HS0 q1 q2 c0
            have hgW : g10 < W.heap.size := by omega
            have c1' : W.cell? ⟨g10, 1, none⟩ = some (.slice (some ⟨g5, 0, none⟩) (64 * n2) cap5) := by rw [cell_of_row _ g10 1 _ _ _ HS2.out.fr]; exact c1
            dsimp only [Exit.inBlock, Exit.then]
            go_wp2_with fail
            rw [rounds_succ]
            have HC5 := Hf.mk hc5
            go_wp2_with (go_at_call 79; refine (HCH.out _ _ _ _).mono ?_; rintro e w' ⟨rfl, rfl⟩)
            obtain ⟨q1, q2, hb13, hz13⟩ := two_cells W (.slice (some ⟨g5, 0, none⟩) (64 * n2) cap5) (.int .i64 64) 54 3
            have hDlt : D < W.heap.size := (Array.getElem?_eq_some_iff.1 hK).1
            generalize (W.alloc (Obj.cells #[Value.slice (some { block := g5, off := 0 }) (64 * n2) cap5] 54)).alloc (Obj.cells #[Value.int IntKind.i64 64] 3) = W13 at q1 q2 hb13 hz13 ⊢
            have HS3 := Hf.mk (HS2.out.below hb13)
            have hK13 : W13.heap[D]? = some (.deferred (some [])) := (hb13.block D hDlt).trans hK
            have hgs10 := HS2.out.l2
            refine (wpIn_wide (n := 5)).1 ?_
            refine wpIn_rangeFunc_ownF (F := Fence.wide) (n := 5) rfl (by decide) (gf := 103) (lb := #[.pointer (some ⟨W.heap.size, 0, none⟩), .pointer (some ⟨W.heap.size + 1, 0, none⟩)]) rfl trivial (enters_of Try.func103 (by kernel_rfl) rfl)
              (chunk_stops 4 (by decide) gs W.heap.size (W.heap.size + 1) W13.heap.size n2 cap5 (some ⟨g5, 0, none⟩) g5 0 (fun _ => rfl) (by omega) (by omega) W13 ⟨by omega, by omega⟩ ⟨by omega, by omega⟩ q1 q2) KG.trans (fun W l o o' => kg_putObj W l o o') (Below.refl _ _) (fun _ => rfl)
              (IB w gk gs g10 g5 row z32 (Sha.tail l) (Sha.tail l) (Sha.after l Sha.H0 n1) W13.heap.size (fun W => ∀ d, some D = some d → W.heap[d]? = some (.deferred (some [])))) (fun _ _ _ => False) (IB_own w gk gs g10 g5 row z32 (Sha.tail l) (Sha.tail l) (Sha.after l Sha.H0 n1) W13.heap.size (by omega) (some D) (fun d e => by cases e; omega)) (fun _ _ _ _ _ hs _ _ => hs) ⟨HS3.out, Nat.le_refl _, fun d e => by cases e; exact hK13⟩
              (fun x => { tmps := #[Value.slice A l.length c, undef, Value.pointer (some ⟨w.heap.size, 0, none⟩), Value.slice (some ⟨g5, 0, none⟩) (64 * n2) cap5, Value.pointer (some ⟨gk, 0, none⟩), Value.pointer (some ⟨gs, 0, none⟩), u6, Value.slice (some ⟨g5, 0, none⟩) (64 * n2) cap5, (.slice (some ⟨g5, 64 * x.val, none⟩) 64 64), u9, u10, u11, u12, u13, u14, u15, u16, u17, u18, u19, u20, u21, u22, u23, u24, u25, u26, u27, u28, u29, u30, u31, u32, u33, Value.agg ks, Value.agg hs, u36, u37, u38, u39, u40, u41, u42, Value.slice (some ⟨g10, 0, none⟩) 2 2, Value.int .i64 2, Value.int .i64 1, Value.bool true, Value.pointer (some ⟨g10, 1, none⟩), Value.slice (some ⟨g5, 0, none⟩) (64 * n2) cap5, Value.slice (some ⟨g5, 0, none⟩) (64 * n2) cap5, Value.func (Fn.func 103) #[] #[Value.pointer (some ⟨W.heap.size, 0, none⟩), Value.pointer (some ⟨W.heap.size + 1, 0, none⟩)], (.slice (some ⟨g5, 64 * x.val, none⟩) 64 64), undef, undef, undef, undef, Value.int .i64 1, undef, undef, undef, undef, undef, undef, undef, undef, undef, undef, undef, undef, undef, undef], defers := [] }) ?assign2 ?body2 ?done2 ?stop2
            case assign2 =>
              intro l' x W K hK
              have hce : chunkV g5 0 x.val = .slice (some ⟨g5, 64 * x.val, none⟩) 64 64 := by simp [chunkV]
              rw [hce]
              gi_wp2
              exact hK
            case body2 =>
              rintro l' pre x W ⟨hs1, hB1, hXD⟩ _
              have hxN : x.val < n2 := x.2
              have hR0 : Reads W (some ⟨g5, 64 * x.val, none⟩) (Sha.part (Sha.tail l) x.val) := by
                have h1 := HTT.out
                have h2 := hs1.rt.part (64 * x.val) 64 (by omega)
                rw [Nat.zero_add] at h2
                exact h2
              have hL0 : (Sha.part (Sha.tail l) x.val).length = 64 := by
                unfold Sha.part
                have h1 := HTT.out
                rw [List.length_take, List.length_drop]
                omega
              have HCD := Hf.mk (done_any g5 (64 * x.val) 64 (Sha.part (Sha.tail l) x.val) (foldB (Sha.tail l) (Sha.after l Sha.H0 n1) pre) W hR0 hL0 (Nat.le_refl _) (by omega) (foldB_ok (Sha.tail l) (Sha.after_ok l Sha.H0_ok n1) pre))
              have hfs := hs1.fs
              have hfk := hs1.fk
              have HEND := Hf.mk (fun W2 W3 (hb : Below W.heap.size W W2) => SAt.done (st' := Sha.block (foldB (Sha.tail l) (Sha.after l Sha.H0 n1) pre) (Sha.part (Sha.tail l) x.val)) (W' := W3) hs1 hb)
              rw [← foldB_snoc] at HCD HEND
              have z1 := arrU_size 8 (stF (foldB (Sha.tail l) (Sha.after l Sha.H0 n1) pre))
              have z2 := arrU_size 64 kF
              have z3 := arrU_size 8 (stF (foldB (Sha.tail l) (Sha.after l Sha.H0 n1) (pre ++ [x])))
              have z4 := arrU_one 8 (stF (foldB (Sha.tail l) (Sha.after l Sha.H0 n1) (pre ++ [x])))
              unfold RowU at hfs hfk
              generalize arrU 8 (stF (foldB (Sha.tail l) (Sha.after l Sha.H0 n1) pre)) = ss at z1 hfs HCD
              generalize arrU 64 kF = kk at z2 hfk HCD
              generalize arrU 8 (stF (foldB (Sha.tail l) (Sha.after l Sha.H0 n1) (pre ++ [x]))) = s3 at z3 z4 HCD HEND
              have hlg : gs < W.heap.size := (Array.getElem?_eq_some_iff.1 hfs).1
              have Z1 := Hf.mk z1
              have Z2 := Hf.mk z2
              have Z3 := Hf.mk z3
              have Z4 := Hf.mk z4
              have HFS := Hf.mk hfs
              have HFK := Hf.mk hfk
              have HS1' := Hf.mk hs1
              clear z1 z2 z3 z4 hfs hfk hs1 hR0 hL0 HS3 HS2 q1 q2
              gi_wp2_with (first
                | (with_reducible refine wpListIn_load_rowD rfl 134 _ rfl gs rfl 134 ss (0, 0) _ HFS.out Try.underlying134 rfl (size134.trans (by rw [Z1.out])) ?_)
                | (with_reducible refine wpListIn_load_rowD rfl 131 _ rfl gk rfl 131 kk (0, 0) _ HFK.out Try.underlying131 rfl (size131.trans (by rw [Z2.out])) ?_)
                | (refine ⟨trivial, ?_⟩; gi_at_call 80; (refine (CallsIn.inRound l' (callsIn_wide.2 HCD.out)).mono ?_); rintro e w2' ⟨rfl, hb⟩; have HB2 := Hf.mk hb; clear hb)
                | (with_reducible refine wpListIn_store_rowD rfl 134 _ _ rfl gs s3 rfl rfl 134 ss ((HB2.out.block _ hlg).trans HFS.out) (size134.trans (by rw [Z3.out])) (Z1.out.trans Z3.out.symm) Z4.out ?_; generalize hw3 : World.setRow _ _ _ = w3; have HE := Hf.mk (HEND.out w2' w3 HB2.out hw3); clear hw3))
              exact ⟨HE.out.2.1, fun k hk hne => HE.out.2.2.1 k (by omega) hne, HE.out.1, by have := HE.out.2.2.2; omega, fun d e => by cases e; exact (HE.out.2.1.same D _ (hXD D rfl) rfl)⟩
            case stop2 =>
              rintro D c pre W _ _ h _
              exact h.elim
            case done2 =>
              rintro D2 ys2 W hD2 hY2 ⟨hs1, hB2, hX2⟩ hK2
              have HS4 := Hf.mk hs1
              have hy := foldB_all (Sha.tail l) (Sha.after l Sha.H0 n1) ys2 hY2
              rw [hy] at HS4
              have hK1 := hX2 D rfl
              clear hs1 hy hY2 HS3 HS2 q1 q2 hX2 hK13 hK c1'
              have hfin : Sha.after (Sha.tail l) (Sha.after l Sha.H0 n1) n2 = Sha.fin l := by
                have e1 := HN1.out
                have e2 := HN2.out
                have e3 := HTT.out
                unfold Sha.fin
                rw [e1, e3, e2]
              rw [hfin] at HS4
              have HFD : Hf (W.heap[w.heap.size]? = some (.cells (cellsOf (dgl (Sha.fin l) 0)).toArray 23 (0, 0))) := ⟨by rw [dgl_zero, HZ.out]; exact HS4.out.fd⟩
              have hfs := HS4.out.fs
              have z1 := arrU_size 8 (stF (Sha.fin l))
              have z2 := fun i hi => arrU_at 8 (stF (Sha.fin l)) i hi
              have z3 := fun i => Sha.get_lt (by omega) (Sha.fin_lt l) i
              unfold RowU at hfs
              generalize arrU 8 (stF (Sha.fin l)) = ss at z1 z2 hfs
              have Z1 := Hf.mk z1
              have Z2 := Hf.mk z2
              have Z3 := Hf.mk z3
              have HFS := Hf.mk hfs
              have HBW := Hf.mk HS4.out.hb
              clear z1 z2 z3 hfs hfin
              dsimp only [Exit.inBlock, Exit.then]
              go_wp2_with fail
              rw [rounds_succ]
              go_wp2_with (with_reducible refine wpList_load_row rfl 134 _ rfl gs rfl 134 ss (0, 0) _ HFS.out Try.underlying134 rfl (size134.trans (by rw [Z1.out])) ?_)
              have HK1 := Hf.mk hK1
              have HK2 := Hf.mk hK2
              have HDD : Hf (w.heap.size < D ∧ D < D2 ∧ D2 < W.heap.size) := ⟨by
                have e1 := HBW.out.size
                have e2 := HS4.out.l4
                have e3 := HS4.out.l1
                have e4 := HS4.out.l2
                have e5 := (Array.getElem?_eq_some_iff.1 hK2).1
                exact ⟨by omega, by omega, e5⟩⟩
              have hsz5 : (Try.prog.info? 5).map (·.size) = some 1 := by rw [hi]; simp [hz1]
              have HZ5 := Hf.mk hsz5
              have HKR : Hf (KG W.heap.size w.heap.size W W) := ⟨KG.refl _ _ _⟩
              have HDW : Hf (w.heap.size < W.heap.size) := ⟨by have := HDD.out; omega⟩
              clear hK1 hK2 hsz5 HS4 HFS
              go_loopw [58] (fun i wr => ∃ k : Nat, k ≤ 8 ∧ i = .int .i64 k ∧ Hf (wr.heap[w.heap.size]? = some (.cells (cellsOf (dgl (Sha.fin l) k)).toArray 23 (0, 0))) ∧ Hf (KG W.heap.size w.heap.size W wr) ∧ Hf (Below w.heap.size w wr) ∧ Hf (W.heap.size ≤ wr.heap.size)) (fun i _ => 8 - (intOf i).toNat)
              case atStart => exact ⟨0, by omega, rfl, HFD, HKR, HBW, ⟨Nat.le_refl _⟩⟩
              case round =>
                obtain ⟨k, hk, rfl, HD, HKG, HBD, HSZ⟩ := hrel
                clear HFD HKR HBW
                by_cases hgo : k < 8
                · have hgo2 : (k : Int) < 8 := by omega
                  have y1 := Z2.out k hgo
                  have y2 := Z1.out
                  obtain ⟨xk, hxk⟩ : ∃ xk, stF (Sha.fin l) k = xk := ⟨_, rfl⟩
                  have hx1 : xk < 4294967296 := by rw [← hxk]; exact Z3.out k
                  rw [hxk] at y1
                  have HXK := Hf.mk hxk
                  have hix := fun u => run_index134 ss k xk hgo y1 u
                  go_wp2_with fail
                  have w1 : IntKind.i64.wrap (4 * (k : Int)) = 4 * (k : Int) := by rw [IntKind.wrap_i64]; omega
                  have w2 : (0 : Int) ≤ 4 * (k : Int) := by omega
                  have w3 : 4 * (k : Int) ≤ 32 := by omega
                  have w4 : (4 * (k : Int)).toNat = 4 * k := by omega
                  have w5 : ¬ (32 = 4 * k) := by omega
                  have w6 : IntKind.u64.wrap (xk : Int) = (xk : Int) := by rw [IntKind.wrap_u64]; omega
                  have HDG := Hf.mk (fun u => digitsOf_any xk 4 u (by omega) (by omega) (by omega))
                  have HDL : Hf ((cellsOf (dgl (Sha.fin l) k)).toArray.size = 32) := ⟨by rw [List.size_toArray, cellsOf_length, dgl_len _ _ hk]⟩
                  have HBL : Hf ((cellsOf (Sha.be xk 4)).length = 4) := ⟨by rw [cellsOf_length, Sha.be_len]⟩
                  have HNX := Hf.mk (fun u w' (hb : Below wr.heap.size wr u) => dgl_world (w' := w') hgo HDW.out HD.out HKG.out HBD.out HSZ.out hb)
                  rw [HXK.out] at HNX
                  have HLT9 : Hf (w.heap.size < wr.heap.size) := ⟨by have := HDW.out; have := HSZ.out; omega⟩
                  have HMIN : Hf ((cellsOf (Sha.be xk 4)).length = Nat.min 4 (32 - 4 * k)) := ⟨by rw [HBL.out]; show _ = min _ _; omega⟩
                  have HFIT : Hf (4 * k + (cellsOf (Sha.be xk 4)).length ≤ (cellsOf (dgl (Sha.fin l) k)).toArray.size) := ⟨by rw [HBL.out, HDL.out]; omega⟩
                  have HNEWS : Hf (∀ j v, (cellsOf (Sha.be xk 4))[j]? = some v → (wr.alloc (.cells (cellsOf (Sha.be xk 4)).toArray 5)).cell? ((⟨wr.heap.size, 0, none⟩ : Addr).add j) = some v) := ⟨(reads_heap (Sha.be_lt 4 xk) (heap_alloc_new wr (.cells (cellsOf (Sha.be xk 4)).toArray 5))).news⟩
                  go_region_law (first
                    | ((refine step_copy_row rfl (.tmp 64) (.tmp 67) 54 54 rfl 5 Try.underlying54 HZ5.out w.heap.size (4 * k) (32 - 4 * k) (32 - 4 * k) ⟨wr.heap.size, 0, none⟩ 4 4 (by simp [Act.eval, Act.put]) (by simp [Act.eval, Act.put]) (cellsOf (dgl (Sha.fin l) k)).toArray 23 ?n1 (cellsOf (Sha.be xk 4)) ?n2 ?n3 ?n4 (cellsOf_one _) ?_); (case n1 => (exact (Below.heap_alloc _ _ _ HLT9.out).trans HD.out)); (case n2 => (exact HMIN.out)); (case n3 => (exact HNEWS.out)); (case n4 => (exact HFIT.out)); intro w9' hw'; (have HX := Hf.mk (HNX.out _ w9' (by repeat (first | exact Below.refl _ _ | refine Below.drew ?_ | refine Below.alloc ?_ (Nat.le_refl _) _)) hw')); clear hw')
                    | (go_simp; go_at_call 76; refine (HDG.out _).mono ?_; rintro e w6 ⟨rfl, rfl⟩))
                  all_goals
                    go_wp2_with fail
                    go_roundw
                    case rel => exact ⟨k + 1, by omega, by go_num, ⟨HX.out.1⟩, ⟨HX.out.2.1⟩, ⟨HX.out.2.2.1⟩, ⟨HX.out.2.2.2⟩⟩
                    case measure => simp [intOf]; omega
                · obtain rfl : k = 8 := by omega
                  have HE := Hf.mk (end_world HDD.out.1 HDD.out.2.1 HDD.out.2.2 HK1.out HK2.out HD.out HKG.out HBD.out)
                  have z1 : (cellsOf (dgl (Sha.fin l) 8)).toArray.size = 32 := by rw [List.size_toArray, cellsOf_length, dgl_len _ _ (Nat.le_refl _)]
                  have z2 : (cellsOf (dgl (Sha.fin l) 8)).toArray.all (·.oneCell') = true := by
                    rw [Array.all_eq_true']
                    intro v hv
                    exact cellsOf_one _ v (by simpa using hv)
                  have hz3 : (cellsOf (dgl (Sha.fin l) 8)).toArray = (cellsOf (Sha.sum l)).toArray := by rw [dgl_all]
                  rw [hz3] at HD HE z1 z2
                  obtain ⟨zs, hzs⟩ : ∃ zs, (cellsOf (Sha.sum l)).toArray = zs := ⟨_, rfl⟩
                  rw [hzs] at HD HE z1 z2
                  have HZS := Hf.mk hzs
                  clear hzs
                  have E1 := Hf.mk z1
                  have E2 := Hf.mk z2
                  clear z1 z2 hz3
                  go_wp2_with (first
                    | (with_reducible refine wpList_load_row rfl 23 _ rfl w.heap.size rfl 23 zs (0, 0) _ HD.out Try.underlying23 rfl (size23.trans (by rw [E1.out])) ?_)
                    | (with_reducible refine wpList_store_row rfl 23 _ _ rfl w.heap.size zs rfl rfl 23 zs HD.out (size23.trans (by rw [E1.out])) rfl E2.out ?_; rw [setRow_self wr w.heap.size zs 23 (0, 0) HD.out]))
                  show LeavesInM _ _ _ _ _ _ _ _ _
                  refine ⟨by simp, .inl ⟨_, _, rfl, run_takeDeferred HE.out.1, ?_⟩⟩
                  refine ⟨by simp, .inl ⟨_, _, rfl, run_takeDeferred HE.out.2.1, ?_⟩⟩
                  exact ⟨_, results_cell_row rfl _ _ w.heap.size 23 zs (0, 0) _ rfl HE.out.2.2.1 Try.underlying23 rfl (size23.trans (by rw [E1.out])), by rw [HZS.out], HE.out.2.2.2⟩
end Go.Proofs.Ytaaepadhapfkoaa
