/-
  Digest: the document's text of an id.
-/
import Derived.Test.YtaaepadhapfkoaaDgF
import Derived.Test.YtaaepadhapfkoaaDgX
namespace Go.Proofs.Ytaaepadhapfkoaa
set_option linter.unusedSimpArgs false
set_option linter.unusedVariables false
open Go.RowKit

theorem slice_digit (h : Nat) (hh : h < 16) (w : World) : (Instr.slice 9 (.string ⟨#[48, 49, 50, 51, 52, 53, 54, 55, 56, 57, 97, 98, 99, 100, 101, 102]⟩) (some (.int .i64 (h : Int))) (some (.int .i64 ((h : Int) + 1))) none).run Try.prog w = .ok (.string ⟨#[hexD h]⟩) w := by
  have h2 : h = 0 ∨ h = 1 ∨ h = 2 ∨ h = 3 ∨ h = 4 ∨ h = 5 ∨ h = 6 ∨ h = 7 ∨ h = 8 ∨ h = 9 ∨ h = 10 ∨ h = 11 ∨ h = 12 ∨ h = 13 ∨ h = 14 ∨ h = 15 := by omega
  have hz : (⟨#[48, 49, 50, 51, 52, 53, 54, 55, 56, 57, 97, 98, 99, 100, 101, 102]⟩ : ByteArray).size = 16 := rfl
  rw [run_slice_string w 9 _ .i64 .i64 (h : Int) ((h : Int) + 1) Try.underlying9 (by omega) (by omega) (by rw [hz]; omega)]
  congr 2
  rcases h2 with rfl | rfl | rfl | rfl | rfl | rfl | rfl | rfl | rfl | rfl | rfl | rfl | rfl | rfl | rfl | rfl <;> exact (ByteArray.extract_mk _ _ _).trans rfl
theorem add_str (x y : ByteArray) (h : x.size + y.size < 1000) : Op.stringOp .add x y = pure (.string (x ++ y)) := by
  unfold Op.stringOp
  simp only
  rw [if_neg (by show ¬ ((x.size + y.size : Nat) : Int) > 9223372036854775807; omega)]
theorem hexB_snoc {l : List Nat} {k c : Nat} (hk : k < l.length) (hc : l.getD k 0 = c) : (⟨(hexB (l.take k)).toArray⟩ : ByteArray) ++ ⟨#[hexD (c / 16)]⟩ ++ ⟨#[hexD (c % 16)]⟩ = ⟨(hexB (l.take (k + 1))).toArray⟩ := by
  rw [take_snoc hk, hc]
  unfold hexB
  rw [List.flatMap_append]
  apply ByteArray.ext
  simp [ByteArray.data_append]
set_option maxHeartbeats 1000000 in
set_option maxRecDepth 100000 in
theorem textR_any (l : List Nat) (w : World) (hl : l.length = 32) (hb : ∀ c ∈ l, c < 256) :
    Calls Try.prog 19 #[.agg (cellsOf l).toArray] w fun e w' => e = .returned (.string ⟨(hexB l).toArray⟩) ∧ Below w.heap.size w w' := by
  have HR := Hf.mk (reads_heap hb (heap_alloc_new w (.cells (cellsOf l).toArray 23)))
  have HB : Hf (∀ c ∈ l, c < 256) := ⟨hb⟩
  have HL := Hf.mk hl
  have HBL : Hf (Below w.heap.size w (w.alloc (.cells (cellsOf l).toArray 23))) := ⟨(Below.refl _ _).alloc (Nat.le_refl _) _⟩
  clear hl hb
  generalize (cellsOf l).toArray = zs at *
  go_enter Try.func19, Try.ntmps19
  go_wp2
  generalize w.alloc (.cells zs 23) = W at HR HBL ⊢
  go_loopw [4, 5] (fun v i wr => ∃ k : Nat, k ≤ 32 ∧ i = .int .i64 k ∧ v = .string ⟨(hexB (l.take k)).toArray⟩ ∧ Hf (Below W.heap.size W wr)) (fun _ i _ => 32 - (intOf i).toNat)
  case atStart => exact ⟨0, by omega, rfl, rfl, ⟨Below.refl _ _⟩⟩
  case round =>
    obtain ⟨k, hk, rfl, rfl, HW⟩ := hrel
    by_cases hgo : k < 32
    · have hgo2 : (k : Int) < 32 := by omega
      have hkl : k < l.length := by rw [HL.out]; exact hgo
      obtain ⟨_, _, q, _, ca⟩ := (HR.out.below HW.out).form (by rw [HL.out]; omega)
      cases q
      have c0 := ca k hkl
      rw [Nat.zero_add] at c0
      have hc2 := Sha.get_lt (by omega) HB.out k
      obtain ⟨c, hc⟩ : ∃ c, l.getD k 0 = c := ⟨_, rfl⟩
      have HST := Hf.mk (hexB_snoc hkl hc)
      rw [hc] at c0 hc2
      clear hc ca hkl
      have hc3 : (c : Int) < 256 := by omega
      have HS1 := slice_digit (c / 16) (by omega)
      have HS2 := slice_digit (c % 16) (by omega)
      have hA : (hexB (l.take k)).length = 2 * k := by rw [hexB_len, List.length_take, HL.out]; omega
      have HAD := add_str (⟨(hexB (l.take k)).toArray⟩ : ByteArray) ⟨#[hexD (c / 16)]⟩ (by show (hexB (l.take k)).toArray.size + 1 < 1000; rw [List.size_toArray, hA]; omega)
      have HAE := add_str ((⟨(hexB (l.take k)).toArray⟩ : ByteArray) ++ ⟨#[hexD (c / 16)]⟩) ⟨#[hexD (c % 16)]⟩ (by rw [ByteArray.size_append]; show (hexB (l.take k)).toArray.size + 1 + 1 < 1000; rw [List.size_toArray, hA]; omega)
      clear hA
      generalize (⟨(hexB (l.take k)).toArray⟩ : ByteArray) = A at HST HAD HAE ⊢
      generalize (⟨#[hexD (c / 16)]⟩ : ByteArray) = d1 at HST HS1 HAD HAE
      generalize (⟨#[hexD (c % 16)]⟩ : ByteArray) = d2 at HST HS2 HAE
      go_upto_region 7 with go_quiet (fail)
      have e1 : (c : Int) / 16 = ((c / 16 : Nat) : Int) := by omega
      have e2 : (c : Int) % 16 = ((c % 16 : Nat) : Int) := by omega
      rw [e1, e2]
      have h1 : c / 16 < 16 := by omega
      have h2 : c % 16 < 16 := by omega
      clear e1 e2 c0 hc2 hc3
      generalize c / 16 = m1 at *
      generalize c % 16 = m2 at *
      have h1' : (m1 : Int) < 16 := by omega
      have h2' : (m2 : Int) < 16 := by omega
      have hw1 : IntKind.i64.wrap ((m1 : Int) + 1) = (m1 : Int) + 1 := IntWalk.i64_in _ (by omega)
      have hw2 : IntKind.i64.wrap ((m2 : Int) + 1) = (m2 : Int) + 1 := IntWalk.i64_in _ (by omega)
      go_quiet (fail)
      go_wp2
      go_roundw
      case rel => exact ⟨k + 1, by omega, by go_num, by rw [← HST.out], ⟨below_drewN HW.out _⟩⟩
      case measure => simp [intOf]; omega
    · obtain rfl : k = 32 := by omega
      have e1 : l.take 32 = l := List.take_of_length_le (by rw [HL.out]; exact Nat.le_refl _)
      rw [e1]
      go_wp2
      go_ret
      exact ⟨rfl, below_step HBL.out HW.out⟩
end Go.Proofs.Ytaaepadhapfkoaa
