/-
  Rank: the live nodes behind the homes, handed on one by one.
-/
import Derived.Test.YtaaepadhapfkoaaRkC
import Derived.RangeFuncNested
import Derived.RangeFuncFrom
import Derived.RangeFuncBound
import Derived.RangeFuncCalls
import Derived.RangeFuncLeaves
import Derived.Shelf.Abstract
import Derived.OwnWalkIn
import Derived.TacticsInMore
import Derived.LoopNIn
import Derived.LoopIn
namespace Go.Proofs.Ytaaepadhapfkoaa
set_option linter.unusedSimpArgs false
set_option linter.unusedVariables false
open Go.RowKit
attribute [local go_sem] Oper.semAt_some

theorem standing_any (A1 A2 : Option Addr) (n1 c1 n2 c2 : Nat) (w : World) : Calls Try.prog 65 #[.slice A1 n1 c1, .slice A2 n2 c2] w fun e w' => e = .returned (.func (.func 101) #[] #[.pointer (some ⟨w.heap.size, 0, none⟩), .pointer (some ⟨w.heap.size + 1, 0, none⟩)]) ∧ w' = (w.alloc (.cells #[.slice A1 n1 c1] 34)).alloc (.cells #[.slice A2 n2 c2] 34) := by
  go_enter Try.func65, Try.ntmps65
  go_wp2
  go_ret
  exact ⟨rfl, rfl⟩
/-- the live ones of a row -/
def liveOf (l live : List Int) : List Int := l.filter fun x => decide (x ∈ live)
theorem liveOf_step {l live : List Int} {k : Nat} (hk : k < l.length) : liveOf (l.take (k + 1)) live = liveOf (l.take k) live ++ (if l.getD k 0 ∈ live then [l.getD k 0] else []) := by
  unfold liveOf
  rw [List.take_succ_eq_append_getElem hk, List.filter_append]
  have : l.getD k 0 = l[k] := by rw [List.getD_eq_getElem?_getD, List.getElem?_eq_getElem hk]; rfl
  rw [this]
  congr 1
  by_cases h : l[k] ∈ live <;> simp [h]
theorem liveOf_len (l live : List Int) (k : Nat) : (liveOf (l.take k) live).length ≤ k := by
  unfold liveOf
  exact Nat.le_trans (List.length_filter_le _ _) (by rw [List.length_take]; omega)
set_option maxRecDepth 100000 in
set_option maxHeartbeats 2000000 in
theorem standing_in (n : Nat) (hn : 2 ≤ n) (l b1 b2 c1 c2 : Nat) (A1 A2 : Option Addr) (l1 l2 : List Int) (w : World) (h1 : b1 < w.heap.size) (h2 : b2 < w.heap.size) (r1 : RdI w A1 l1) (r2 : RdI w A2 l2) (hl1 : l1.length ≤ 9223372036854775807) (hl2 : l2.length ≤ 9223372036854775807)
    (hc1 : w.cell? ⟨b1, 0, none⟩ = some (.slice A1 l1.length c1)) (hc2 : w.cell? ⟨b2, 0, none⟩ = some (.slice A2 l2.length c2)) (J Jx : List Int → World → Prop)
    (hY : ∀ pre x W, J pre W → pre.length < l1.length → YieldAt Fence.wide (n - 1) Try.prog l #[.int .i64 x] W fun e W' =>
      (e = .returned (.bool true) ∧ J (pre ++ [x]) W' ∧ Below w.heap.size W W') ∨ (e = .returned (.bool false) ∧ Jx (pre ++ [x]) W'))
    (W : World) (hW : Below w.heap.size w W) (h0 : J [] W) :
    CallsIn Fence.wide n Try.prog 101 #[.func (.yield l) #[] #[], .pointer (some ⟨b1, 0, none⟩), .pointer (some ⟨b2, 0, none⟩)] W fun e W' => (∃ v, e = .returned v) ∧
      ((∃ ys : List Int, ys = liveOf l1 l2 ∧ J ys W') ∨ (∃ pre, True ∧ Jx pre W')) := by
  have R1 := Hf.mk r1
  have R2 := Hf.mk r2
  have HL2 := Hf.mk hl2
  clear r1 r2
  refine callsIn_of_wp Try.func101 rfl trivial ?_ rfl
  simp only [Try.ntmps101, List.size_toArray, List.length_cons, List.length_nil, Nat.reduceAdd, Nat.reduceSub, Array.replicate_succ, Array.replicate_zero, List.push_toArray, List.append_toArray, List.nil_append, List.cons_append]
  have q1 := (hW.cell (p := ⟨b1, 0, none⟩) h1).trans hc1
  gi_wp2
  gi_loopw [8] (fun i wr => ∃ k : Nat, k ≤ l1.length ∧ i = .int .i64 k ∧ Hf (J (liveOf (l1.take k) l2) wr) ∧ Hf (Below w.heap.size w wr)) (fun i _ => l1.length - (intOf i).toNat)
  case atStart => exact ⟨0, Nat.zero_le _, rfl, ⟨h0⟩, ⟨hW⟩⟩
  case round =>
    obtain ⟨k, hk, rfl, HJ, HB⟩ := hrel
    by_cases hlt : k < l1.length
    · have hlt2 : (k : Int) < (l1.length : Int) := by omega
      obtain ⟨b, off, rfl, hb, hc⟩ := (R1.out.below HB.out).form (by omega)
      have q0 := hc k hlt
      have q2 := (HB.out.cell (p := ⟨b2, 0, none⟩) h2).trans hc2
      have HST := Hf.mk (liveOf_step (live := l2) hlt)
      obtain ⟨x, hx⟩ : ∃ x, l1.getD k 0 = x := ⟨_, rfl⟩
      rw [hx] at q0 HST
      have HCN := Hf.mk (contains_any A2 l2 c2 x wr (R2.out.below HB.out) HL2.out)
      clear hc hx hc1 hc2 hW h0 q1
      by_cases hin : x ∈ l2
      · rw [if_pos hin] at HST
        rw [decide_eq_true hin] at HCN
        obtain ⟨fn, tmps, assign, body, hy, hR⟩ := hY (liveOf (l1.take k) l2) x wr HJ.out (Nat.lt_of_le_of_lt (liveOf_len _ _ _) hlt)
        have HR := Hf.mk hR
        clear hR hin
        gi_wp2_with (refine ⟨trivial, (fun h => by cases h), ?_⟩; (with_reducible refine (callsIn_wide.2 HCN.out).mono ?_); rintro e w2' ⟨rfl, rfl⟩)
        refine ⟨(fun h => by cases h), ?_⟩
        refine HR.out.mono ?_
        rintro e W3 (⟨rfl, hJ3, hk3⟩ | ⟨rfl, hJx3⟩)
        · have HJ3 := Hf.mk hJ3
          have HB3 := Hf.mk (HB.out.trans hk3)
          clear hJ3 hk3 HR hy HJ HB
          gi_wp2
          go_roundw
          case rel => exact ⟨k + 1, by omega, by go_num, ⟨by rw [HST.out]; exact HJ3.out⟩, HB3⟩
          case measure => simp [intOf]; omega
        · gi_wp2
          refine bodyPost_ret (results_none rfl _ _ _) rfl ?_
          exact ⟨⟨_, rfl⟩, .inr ⟨_, trivial, hJx3⟩⟩
      · rw [if_neg hin, List.append_nil] at HST
        rw [decide_eq_false hin] at HCN
        clear hin
        gi_wp2_with (refine ⟨trivial, (fun h => by cases h), ?_⟩; (with_reducible refine (callsIn_wide.2 HCN.out).mono ?_); rintro e w2' ⟨rfl, rfl⟩)
        refine ⟨(fun _ h => by cases h), ?_⟩
        gi_wp2
        go_roundw
        case rel => exact ⟨k + 1, by omega, by go_num, ⟨by rw [HST.out]; exact HJ.out⟩, HB⟩
        case measure => simp [intOf]; omega
    · obtain rfl : k = l1.length := by omega
      have e1 : l1.take l1.length = l1 := List.take_of_length_le (Nat.le_refl _)
      rw [e1] at HJ
      gi_wp2
      go_end0
      exact ⟨⟨_, rfl⟩, .inl ⟨_, rfl, HJ.out⟩⟩
theorem standing_stops (n : Nat) (hn : 2 ≤ n) (b1 b2 c1 c2 : Nat) (A1 A2 : Option Addr) (l1 l2 : List Int) (w : World) (h1 : b1 < w.heap.size) (h2 : b2 < w.heap.size) (r1 : RdI w A1 l1) (r2 : RdI w A2 l2) (hl1 : l1.length ≤ 9223372036854775807) (hl2 : l2.length ≤ 9223372036854775807)
    (hc1 : w.cell? ⟨b1, 0, none⟩ = some (.slice A1 l1.length c1)) (hc2 : w.cell? ⟨b2, 0, none⟩ = some (.slice A2 l2.length c2)) :
    SeqStopsK Fence.wide n Try.prog 101 #[.pointer (some ⟨b1, 0, none⟩), .pointer (some ⟨b2, 0, none⟩)] (fun x : Int => #[.int .i64 x]) (Below w.heap.size) (fun ys => ys = liveOf l1 l2) (fun _ => True) l1.length w := fun l J Jx W hW _ _ hY h0 =>
  standing_in n hn l b1 b2 c1 c2 A1 A2 l1 l2 w h1 h2 r1 r2 hl1 hl2 hc1 hc2 J Jx hY W hW h0
end Go.Proofs.Ytaaepadhapfkoaa
