/-
  Digest: the example.
-/
import Derived.Test.YtaaepadhapfkoaaDgX
import Derived.Lib.ConvBytes
namespace Go.Proofs.Ytaaepadhapfkoaa
set_option linter.unusedSimpArgs false
set_option linter.unusedVariables false
open Go.RowKit

theorem abc_sum : Sha.sum [97, 98, 99] = [186, 120, 22, 191, 143, 1, 207, 234, 65, 65, 64, 222, 93, 174, 34, 35, 176, 3, 97, 163, 150, 23, 122, 156, 180, 16, 255, 97, 242, 0, 21, 173] := by kernel_rfl
theorem abc_text : (⟨(hexB (Sha.sum [97, 98, 99])).toArray⟩ : ByteArray) = ⟨#[98, 97, 55, 56, 49, 54, 98, 102, 56, 102, 48, 49, 99, 102, 101, 97, 52, 49, 52, 49, 52, 48, 100, 101, 53, 100, 97, 101, 50, 50, 50, 51, 98, 48, 48, 51, 54, 49, 97, 51, 57, 54, 49, 55, 55, 97, 57, 99, 98, 52, 49, 48, 102, 102, 54, 49, 102, 50, 48, 48, 49, 53, 97, 100]⟩ := by
  rw [abc_sum]
  kernel_rfl
theorem below_bytes (w : World) (s : ByteArray) : Below w.heap.size w (Lib.bytesWorld w 5 s) :=
  ⟨rfl, rfl, rfl, by rw [Lib.bytesWorld_size]; omega, fun j hj => Lib.bytesWorld_at_old w 5 s j hj⟩
set_option maxHeartbeats 1000000 in
set_option maxRecDepth 100000 in
theorem is_abc (w : World) (want : ByteArray) (hw : (⟨(hexB (Sha.sum [97, 98, 99])).toArray⟩ : ByteArray) = want) :
    Calls Try.prog 50 #[.string ⟨#[97, 98, 99]⟩, .string want] w fun e w' => e = .returned (.bool true) ∧ Below w.heap.size w w' := by
  have hcv := Lib.run_convert_string_bytes (P := Try.prog) w 9 54 5 ⟨#[97, 98, 99]⟩ Try.underlying9 Try.underlying54 Try.underlying5
  have hb := below_bytes w ⟨#[97, 98, 99]⟩
  have hge : 3 ≤ grownCap w 3 0 5 := grownCap_ge w 3 0 5
  have hle : grownCap w 3 0 5 ≤ maxLen := grownCap_le_maxLen w 3 0 5 (by unfold maxLen; omega)
  have hgv : Given (Lib.bytesWorld w 5 ⟨#[97, 98, 99]⟩) (some ⟨w.heap.size, 0, none⟩) (grownCap w 3 0 5) [97, 98, 99] := by
    refine ⟨⟨by decide, fun i hi => ⟨w.heap.size, 0, rfl, by rw [Lib.bytesWorld_size]; omega, ?_⟩⟩, hge, by unfold maxLen at hle; omega, fun e => by cases e⟩
    rw [Nat.zero_add, Lib.bytesWorld_cell w 5 ⟨#[97, 98, 99]⟩ i hi]
    have h3 : i = 0 ∨ i = 1 ∨ i = 2 := by simp at hi; omega
    rcases h3 with rfl | rfl | rfl <;> rfl
  have hsz : (⟨#[97, 98, 99]⟩ : ByteArray).size = 3 := rfl
  rw [hsz] at hcv
  generalize Lib.bytesWorld w 5 ⟨#[97, 98, 99]⟩ = W at hcv hb hgv
  generalize grownCap w 3 0 5 = cap at hcv hgv
  have HS := Hf.mk (sum_any (some ⟨w.heap.size, 0, none⟩) cap [97, 98, 99] W hgv (by simp))
  have HT := Hf.mk (fun u => text_any (Sha.sum [97, 98, 99]) u (Sha.sum_len _) (Sha.sum_lt _))
  have HW := Hf.mk hw
  generalize Sha.sum [97, 98, 99] = D at HS HT HW hw
  rw [hw] at HT
  generalize (cellsOf D).toArray = zs at HS HT
  have HB := Hf.mk hb
  clear hb hgv hge hle hw
  go_enter Try.func50, Try.ntmps50
  go_wp2_with (first
    | (go_at_call 38; refine HS.out.mono ?_; rintro e w1 ⟨rfl, hb1⟩; have HB1 := Hf.mk hb1; clear hb1)
    | (go_at_call 16; refine (HT.out _).mono ?_; rintro e w2 ⟨rfl, hb2⟩; have HB2 := Hf.mk hb2; clear hb2))
  go_ret
  exact ⟨by simp, below_step (below_step HB.out HB1.out) HB2.out⟩
theorem awake_any (w : World) : Calls Try.prog 13 #[] w fun e w' => e = .returned (.bool true) ∧ Below w.heap.size w w' := by
  have HI := Hf.mk (is_abc w _ abc_text)
  go_enter Try.func13, Try.ntmps13
  go_wp2_with (go_at_call 50; refine HI.out.mono ?_; rintro e w1 ⟨rfl, hb1⟩; have HB1 := Hf.mk hb1; clear hb1)
  go_ret
  exact ⟨rfl, HB1.out⟩
end Go.Proofs.Ytaaepadhapfkoaa
