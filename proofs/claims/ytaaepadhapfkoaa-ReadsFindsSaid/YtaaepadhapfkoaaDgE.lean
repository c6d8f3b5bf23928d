/-
  Digest: are two ids the same?
-/
import Derived.Test.YtaaepadhapfkoaaDgB
import Derived.Stop.BytesEq
namespace Go.Proofs.Ytaaepadhapfkoaa
set_option linter.unusedSimpArgs false
set_option linter.unusedVariables false
open Go.RowKit

theorem cells_u8 : ∀ (a : List Nat), (∀ x ∈ a, x < 256) → cellsOf a = (a.map UInt8.ofNat).map Extern.Stop.cell
  | [], _ => rfl
  | x :: a, h => by
    have hx := h x (List.mem_cons_self ..)
    have ih := cells_u8 a (fun c hc => h c (List.mem_cons_of_mem _ hc))
    have e : (UInt8.ofNat x).toNat = x := by simp; omega
    show (Value.int .u8 (x : Int)) :: cellsOf a = Extern.Stop.cell (UInt8.ofNat x) :: _
    rw [ih]
    congr 1
    unfold Extern.Stop.cell
    rw [e]
    rfl
theorem u8_inj : ∀ (a b : List Nat), (∀ x ∈ a, x < 256) → (∀ x ∈ b, x < 256) → a.map UInt8.ofNat = b.map UInt8.ofNat → a = b
  | [], [], _, _, _ => rfl
  | [], _ :: _, _, _, h => by simp at h
  | _ :: _, [], _, _, h => by simp at h
  | x :: a, y :: b, ha, hb, h => by
    simp only [List.map_cons, List.cons.injEq] at h
    have e1 : (UInt8.ofNat x).toNat = x := by have := ha x (List.mem_cons_self ..); simp; omega
    have e2 : (UInt8.ofNat y).toNat = y := by have := hb y (List.mem_cons_self ..); simp; omega
    have h1 := congrArg UInt8.toNat h.1
    rw [e1, e2] at h1
    rw [h1, u8_inj a b (fun c hc => ha c (List.mem_cons_of_mem _ hc)) (fun c hc => hb c (List.mem_cons_of_mem _ hc)) h.2]
theorem run_eql_ids (a b : List Nat) (w : World) (ha : a.length = 32) (hb : b.length = 32) (ha1 : ∀ x ∈ a, x < 256) (hb1 : ∀ x ∈ b, x < 256) :
    (binOp .eql 23 (.agg (cellsOf a).toArray) (.agg (cellsOf b).toArray)).run Try.prog w = .ok (.bool (decide (a = b))) w := by
  rw [cells_u8 a ha1, cells_u8 b hb1, run_eql_bytes w 23 5 32 Try.underlying23 Try.underlying5 Try.sizeOf5 _ _ (by rw [List.length_map, ha]) (by rw [List.length_map, hb])]
  congr 2
  by_cases e : a = b
  · subst e; simp
  · have : ¬ (a.map UInt8.ofNat = b.map UInt8.ofNat) := fun h => e (u8_inj a b ha1 hb1 h)
    simp [e, this]
end Go.Proofs.Ytaaepadhapfkoaa
