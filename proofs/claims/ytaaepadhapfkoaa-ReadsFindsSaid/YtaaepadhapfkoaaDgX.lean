/-
  Digest: an id's text.
-/
import Derived.Test.YtaaepadhapfkoaaDgT
import Derived.Test.YtaaepadhapfkoaaDgM
namespace Go.Proofs.Ytaaepadhapfkoaa
set_option linter.unusedSimpArgs false
set_option linter.unusedVariables false
open Go.RowKit

/-- the digits -/
def hexD (i : Nat) : UInt8 := [48, 49, 50, 51, 52, 53, 54, 55, 56, 57, 97, 98, 99, 100, 101, 102].getD i 0
def hexB (l : List Nat) : List UInt8 := l.flatMap fun c => [hexD (c / 16), hexD (c % 16)]
theorem hexAt (i : Nat) (h : i < (⟨#[48, 49, 50, 51, 52, 53, 54, 55, 56, 57, 97, 98, 99, 100, 101, 102]⟩ : ByteArray).size) : ((⟨#[48, 49, 50, 51, 52, 53, 54, 55, 56, 57, 97, 98, 99, 100, 101, 102]⟩ : ByteArray)[i]).toNat = (hexD i).toNat := by
  have h16 : i < 16 := h
  have h2 : i = 0 ∨ i = 1 ∨ i = 2 ∨ i = 3 ∨ i = 4 ∨ i = 5 ∨ i = 6 ∨ i = 7 ∨ i = 8 ∨ i = 9 ∨ i = 10 ∨ i = 11 ∨ i = 12 ∨ i = 13 ∨ i = 14 ∨ i = 15 := by omega
  rcases h2 with rfl | rfl | rfl | rfl | rfl | rfl | rfl | rfl | rfl | rfl | rfl | rfl | rfl | rfl | rfl | rfl <;> rfl
theorem hexB_len (l : List Nat) : (hexB l).length = 2 * l.length := by
  induction l with
  | nil => rfl
  | cons x l ih =>
    have e : hexB (x :: l) = [hexD (x / 16), hexD (x % 16)] ++ hexB l := rfl
    rw [e, List.length_append, ih, List.length_cons, List.length_cons, List.length_cons, List.length_nil]
    omega
theorem bytes_len (l : List UInt8) : (Lib.byteCells l).length = l.length := by simp [Lib.byteCells]
theorem hex_step {l : List Nat} {k c : Nat} (hk : k < l.length) (hc : l.getD k 0 = c) : Lib.byteCells (hexB (l.take (k + 1))) = (Lib.byteCells (hexB (l.take k)) ++ [.int .u8 (hexD (c / 16)).toNat]) ++ [.int .u8 (hexD (c % 16)).toNat] := by
  rw [take_snoc hk, hc]
  unfold hexB
  rw [List.flatMap_append]
  simp [Lib.byteCells]
theorem size23' : (Try.prog.info? 23).map (·.size) = some 32 := by kernel_rfl
theorem info5s : (Try.prog.info? 5).map (·.size) = some 1 := by kernel_rfl
theorem run_index23 (ss : Array Value) (k xk : Nat) (hk : k < 32) (h : ss[k]? = some (.int .u8 xk)) (w : World) : (Instr.index 23 (.agg ss) (.int .i64 (k : Int))).run Try.prog w = .ok (.int .u8 xk) w := by
  obtain ⟨i, hi, hs⟩ := Option.map_eq_some_iff.1 info5s
  have h1 : (0 : Int) ≤ k ∧ (k : Int) < 32 := by omega
  simp [Instr.index, asIntOf, run_underlying Try.underlying23, sizeOf, typeInfo, hi, hs, h1, Sem.run_bind]
  rw [if_pos hk]
  simp [part, isAgg, run_underlying Try.underlying5, h, Sem.run_bind]
set_option maxHeartbeats 1000000 in
set_option maxRecDepth 100000 in
theorem text_any (l : List Nat) (w : World) (hl : l.length = 32) (hb : ∀ c ∈ l, c < 256) :
    Calls Try.prog 16 #[.agg (cellsOf l).toArray] w fun e w' => e = .returned (.string ⟨(hexB l).toArray⟩) ∧ Below w.heap.size w w' := by
  have hz : (cellsOf l).toArray.size = 32 := by rw [List.size_toArray, cellsOf_length, hl]
  have HZ : Hf (∀ k, k < 32 → (cellsOf l).toArray[k]? = some (.int .u8 (l.getD k 0 : Nat))) := ⟨fun k hk => by simpa using cellsOf_at (l := l) (j := k) (by omega)⟩
  have HL := Hf.mk hl
  have HB := Hf.mk hb
  clear hl hb
  generalize (cellsOf l).toArray = zs at hz HZ ⊢
  have HS := Hf.mk hz
  go_enter Try.func16, Try.ntmps16
  go_upto_region 2 with fail
  have h1 : ((w.alloc (.cells zs 23)).alloc (.cells #[.pointer none, .slice none 0 0] 93)).heap[w.heap.size]? = some (.cells zs 23) := (Below.heap_alloc _ _ _ (by simp)).trans (heap_alloc_new _ _)
  have h2 := heap_alloc_new (w.alloc (.cells zs 23)) (.cells #[.pointer none, .slice none 0 0] 93)
  rw [World.size_alloc] at h2
  have H1 := Hf.mk h1
  have HBU : Hf (Lib.IsBuilder 93 5 (w.heap.size + 1) (w.heap.size + 1) (Lib.byteCells (hexB (l.take 0))) ((w.alloc (.cells zs 23)).alloc (.cells #[.pointer none, .slice none 0 0] 93))) := ⟨.inl ⟨Nat.le_refl _, _, h2, World.ownsRow_nil _ _ _ _, by simp [Value.ownBlock]⟩⟩
  have HBL : Hf (Below w.heap.size w ((w.alloc (.cells zs 23)).alloc (.cells #[.pointer none, .slice none 0 0] 93))) := ⟨((Below.refl _ _).alloc (Nat.le_refl _) _).alloc (by simp) _⟩
  have hsz : ((w.alloc (.cells zs 23)).alloc (.cells #[.pointer none, .slice none 0 0] 93)).heap.size = w.heap.size + 2 := by simp
  clear h1 h2
  generalize (w.alloc (.cells zs 23)).alloc (.cells #[.pointer none, .slice none 0 0] 93) = W at H1 HBU HBL hsz ⊢
  go_wp2_with (with_reducible refine wpList_load_row rfl 23 _ rfl w.heap.size rfl 23 zs (0, 0) _ H1.out Try.underlying23 rfl (size23'.trans (by rw [HS.out])) ?_)
  go_loopw [7] (fun i wr => ∃ k : Nat, k ≤ 32 ∧ i = .int .i64 k ∧ Hf (Lib.IsBuilder 93 5 (w.heap.size + 1) (w.heap.size + 1) (Lib.byteCells (hexB (l.take k))) wr) ∧ Hf (Below w.heap.size w wr) ∧ w.heap.size + 1 ≤ wr.heap.size) (fun i _ => 32 - (intOf i).toNat)
  case atStart => exact ⟨0, by omega, rfl, HBU, HBL, by omega⟩
  case round =>
    obtain ⟨k, hk, rfl, HU, HW, hsz2⟩ := hrel
    by_cases hgo : k < 32
    · have hgo2 : (k : Int) < 32 := by omega
      obtain ⟨c, hc⟩ : ∃ c, l.getD k 0 = c := ⟨_, rfl⟩
      have hc2 : c < 256 := by rw [← hc]; exact Sha.get_lt (by omega) HB.out k
      have hzk := HZ.out k hgo
      rw [hc] at hzk
      have hix := fun u => run_index23 zs k c hgo hzk u
      have hc3 : (c : Int) < 256 := by omega
      have HLEN : Hf ((Lib.byteCells (hexB (l.take k))).length + 2 ≤ 140737488355328) := ⟨by rw [bytes_len, hexB_len, List.length_take]; omega⟩
      go_wp2_with (first
        | (go_at_call 53; (refine (writeByte_any _ _ _ _ _ HU.out (by have := HLEN.out; omega) hsz2).mono ?_); rintro e w1 ⟨rfl, hU1, hB1⟩; (rw [hexAt] at hU1); have HU1 := Hf.mk hU1; have HB1 := Hf.mk hB1; clear hU1 hB1 HU)
        | (go_at_call 53; (refine (writeByte_any _ _ _ _ _ (Or.inr HU1.out) (by rw [List.length_append]; have := HLEN.out; simp only [List.length_cons, List.length_nil]; omega) (by have := HB1.out.size; omega)).mono ?_); rintro e w2 ⟨rfl, hU2, hB2⟩; (rw [hexAt] at hU2); have HU2 := Hf.mk hU2; have HB2 := Hf.mk hB2; clear hU2 hB2 HU1))
      have HST := hex_step (l := l) (k := k) (by rw [HL.out]; exact hgo) hc
      rw [← HST] at HU2
      go_roundw
      case rel => exact ⟨k + 1, by omega, by go_num, ⟨.inr HU2.out⟩, ⟨HW.out.trans ((HB1.out.trans HB2.out).mono (by omega))⟩, by have := HB1.out.size; have := HB2.out.size; omega⟩
      case measure => simp [intOf]; omega
    · obtain rfl : k = 32 := by omega
      have e1 : l.take 32 = l := List.take_of_length_le (by rw [HL.out]; exact Nat.le_refl _)
      rw [e1] at HU
      have hne : hexB l ≠ [] := by
        intro e
        have := hexB_len l
        rw [e, HL.out] at this
        cases this
      have HNE := Hf.mk hne
      clear hne e1
      go_wp2_with (go_at_call 54; refine (string_any _ _ (hexB l) _ HU.out HNE.out).mono ?_; rintro e w1 ⟨rfl, hb1⟩; have HB1 := Hf.mk hb1; clear hb1)
      go_ret
      exact ⟨rfl, HW.out.trans (HB1.out.mono (by omega))⟩
end Go.Proofs.Ytaaepadhapfkoaa
