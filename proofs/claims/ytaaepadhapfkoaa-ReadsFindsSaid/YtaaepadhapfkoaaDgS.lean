/-
  Digest: the words of a block.
-/
import Derived.Test.YtaaepadhapfkoaaDgC
import Derived.StillTailTactics
namespace Go.Proofs.Ytaaepadhapfkoaa
set_option linter.unusedSimpArgs false
set_option linter.unusedVariables false
open Go.RowKit

theorem num4 (b : List Nat) (i : Nat) (h : i + 4 ≤ b.length) : num ((b.drop i).take 4) = Sha.be4 b i := by
  have e : (b.drop i).take 4 = [b.getD i 0, b.getD (i + 1) 0, b.getD (i + 2) 0, b.getD (i + 3) 0] := by
    apply List.ext_getElem
    · simp; omega
    · intro j h1 h2
      have hj : j < 4 := by simpa using h2
      have e1 : ((b.drop i).take 4)[j] = b.getD (i + j) 0 := by
        rw [← getD_get h1, getD_take hj, getD_drop]
      rw [e1]
      obtain rfl | rfl | rfl | rfl : j = 0 ∨ j = 1 ∨ j = 2 ∨ j = 3 := by omega
      all_goals rfl
  rw [e]
  simp [num, Sha.be4]
theorem xor3 (a b c : Nat) (ha : a < 4294967296) (hb : b < 4294967296) (hc : c < 4294967296) : bits .xor .u32 (bits .xor .u32 (a : Int) (b : Int)) (c : Int) = (((a ^^^ b) ^^^ c : Nat) : Int) := by
  rw [u32_xor_nat a b ha hb, u32_xor_nat _ c (Sha.xor_lt ha hb) hc]
theorem sval (x0 x1 x2 x3 : Nat) (h1 : x1 < 4294967296) (h3 : x3 < 4294967296) :
    ((x0 : Int) + bits .xor .u32 (bits .xor .u32 ((Sha.rot x1 7 : Nat) : Int) ((Sha.rot x1 18 : Nat) : Int)) ((x1 : Int) / 8) + (x2 : Int) + bits .xor .u32 (bits .xor .u32 ((Sha.rot x3 17 : Nat) : Int) ((Sha.rot x3 19 : Nat) : Int)) ((x3 : Int) / 1024)) % 4294967296 = (((x0 + Sha.s0 x1 + x2 + Sha.s1 x3) % 4294967296 : Nat) : Int) := by
  have e1 : (x1 : Int) / 8 = ((x1 / 8 : Nat) : Int) := by omega
  have e3 : (x3 : Int) / 1024 = ((x3 / 1024 : Nat) : Int) := by omega
  rw [e1, e3, xor3 _ _ _ (Sha.rot_lt h1) (Sha.rot_lt h1) (by omega), xor3 _ _ _ (Sha.rot_lt h3) (Sha.rot_lt h3) (by omega)]
  unfold Sha.s0 Sha.s1
  omega
set_option maxHeartbeats 1600000 in
set_option maxRecDepth 100000 in
theorem spread_any (g off c : Nat) (b : List Nat) (w : World) (hr : Reads w (some ⟨g, off, none⟩) b) (hb : b.length = 64) (hc : 64 ≤ c) (hcm : c ≤ 9223372036854775807) :
    Calls Try.prog 104 #[.slice (some ⟨g, off, none⟩) 64 c] w fun e w' => e = .returned (.agg (arrU 64 (Sha.W b))) ∧ Below w.heap.size w w' := by
  have HR := Hf.mk hr
  have HBL := Hf.mk hb
  have hz := zero131'
  have hz0 : RowU (w.alloc (.cells (arrU 64 fun _ => 0) 131)) w.heap.size 131 64 (fun i => if i < 0 then Sha.W b i else 0) := (RowU.new w 131 64 _).congr fun i _ => by simp
  have hb0 : Below w.heap.size w (w.alloc (.cells (arrU 64 fun _ => 0) 131)) := (Below.refl _ _).alloc (Nat.le_refl _) _
  obtain ⟨zs, hze⟩ : ∃ zs, arrU 64 (fun _ => 0) = zs := ⟨_, rfl⟩
  rw [hze] at hz hz0 hb0
  have HZ0 := Hf.mk hz0
  have HB0 := Hf.mk hb0
  clear hr hb hze hz0 hb0
  go_enter Try.func104, Try.ntmps104
  go_wp2
  go_loopw [7] (fun i wr => ∃ k : Nat, k ≤ 16 ∧ i = .int .i64 k ∧ Hf (RowU wr w.heap.size 131 64 (fun i => if i < k then Sha.W b i else 0)) ∧ Hf (Below w.heap.size w wr)) (fun i _ => 16 - (intOf i).toNat)
  case atStart => exact ⟨0, by omega, rfl, HZ0, HB0⟩
  case round =>
    clear HZ0 HB0
    obtain ⟨k, hk, rfl, HU, HB⟩ := hrel
    by_cases hgo : k < 16
    · have HN : Hf (Calls Try.prog 52 #[.slice (some ⟨g, off + 4 * k, none⟩) 4 (c - 4 * k)] wr fun e w' => e = .returned (.int .u64 (Sha.W b k)) ∧ wr = w') := ⟨by
        have hp := (HR.out.below HB.out).part (4 * k) 4 (by rw [HBL.out]; omega)
        have := number_any _ _ (c - 4 * k) wr hp (by rw [List.length_take]; omega)
        rw [num4 b (4 * k) (by rw [HBL.out]; omega), ← Sha.W_lo b hgo] at this
        rwa [show ((b.drop (4 * k)).take 4).length = 4 by rw [List.length_take, List.length_drop, HBL.out]; omega] at this⟩
      have hlt := Sha.W_lt HR.out.bytes k
      have q0 : wr.cell? ⟨w.heap.size, k, none⟩ = some (.int .u32 0) := by
        have := HU.out.cell (i := k) (by omega)
        rwa [if_neg (by omega)] at this
      have f0 := HU.out.frozen k
      obtain ⟨v, hv⟩ : ∃ v, Sha.W b k = v := ⟨_, rfl⟩
      rw [hv] at HN hlt
      have HV := Hf.mk hv
      clear hv
      go_wp2_with (go_at_call 52; (with_reducible refine HN.out.mono ?_); rintro e w' ⟨rfl, rfl⟩)
      go_roundw
      case rel => exact ⟨k + 1, by omega, by go_num, ⟨by
        exact HU.out.set (by omega) v fun i _ => by
          by_cases e1 : i = k
          · subst e1; rw [if_pos (by omega), if_pos rfl]; exact HV.out
          · rw [if_neg e1]
            by_cases e2 : i < k
            · rw [if_pos (by omega), if_pos e2]
            · rw [if_neg (by omega), if_neg e2]⟩, ⟨HB.out.setCell (Nat.le_refl _) _⟩⟩
      case measure => simp [intOf]; omega
    · obtain rfl : k = 16 := by omega
      rw [show ((16 : Nat) : Int) = 16 from rfl]
      have HU0 : Hf (RowU wr w.heap.size 131 64 (fun i => if i < 16 then Sha.W b i else 0)) := HU
      go_wp2
      go_loopw [4] (fun i wx => ∃ k : Nat, k ≤ 48 ∧ i = .int .i64 ((k : Int) + 16) ∧ Hf (RowU wx w.heap.size 131 64 (fun i => if i < k + 16 then Sha.W b i else 0)) ∧ Hf (Below w.heap.size w wx)) (fun i _ => 64 - (intOf i).toNat)
      case atStart => exact ⟨0, by omega, rfl, HU0, HB⟩
      case round =>
        clear HU0 HU HB
        obtain ⟨k, hk, rfl, HU, HB⟩ := hrel
        by_cases hgo : k < 48
        · have hg1 : (k : Int) + 16 < 64 := by omega
          have c0 := HU.out.cell (i := k) (by omega)
          have c1 := HU.out.cell (i := k + 1) (by omega)
          have c2 := HU.out.cell (i := k + 9) (by omega)
          have c3 := HU.out.cell (i := k + 14) (by omega)
          have c4 := HU.out.cell (i := k + 16) (by omega)
          have f4 := HU.out.frozen (k + 16)
          rw [if_pos (by omega)] at c0 c1 c2 c3
          rw [if_neg (by omega)] at c4
          have HW := Hf.mk (Sha.W_hi b (t := k + 16) (by omega))
          have HL0 := Hf.mk (Sha.W_lt HR.out.bytes k)
          have HL1 := Hf.mk (Sha.W_lt HR.out.bytes (k + 1))
          have HL2 := Hf.mk (Sha.W_lt HR.out.bytes (k + 9))
          have HL3 := Hf.mk (Sha.W_lt HR.out.bytes (k + 14))
          rw [show k + 16 - 16 = k by omega, show k + 16 - 15 = k + 1 by omega, show k + 16 - 7 = k + 9 by omega, show k + 16 - 2 = k + 14 by omega] at HW
          obtain ⟨x0, h0⟩ : ∃ v, Sha.W b k = v := ⟨_, rfl⟩
          obtain ⟨x1, h1⟩ : ∃ v, Sha.W b (k + 1) = v := ⟨_, rfl⟩
          obtain ⟨x2, h2⟩ : ∃ v, Sha.W b (k + 9) = v := ⟨_, rfl⟩
          obtain ⟨x3, h3⟩ : ∃ v, Sha.W b (k + 14) = v := ⟨_, rfl⟩
          rw [h0] at c0 HW HL0
          rw [h1] at c1 HW HL1
          rw [h2] at c2 HW HL2
          rw [h3] at c3 HW HL3
          clear h0 h1 h2 h3
          have w1 : IntKind.i64.wrap ((k : Int) + 16 - 15) = ((k + 1 : Nat) : Int) := by rw [IntKind.wrap_i64]; omega
          have w2 : IntKind.i64.wrap ((k : Int) + 16 - 2) = ((k + 14 : Nat) : Int) := by rw [IntKind.wrap_i64]; omega
          go_wp2_with fail
          go_quiet (fail)
          rename_i nq
          have hbq := below_drewN (Below.refl wr.heap.size wr) nq
          have HUd := Hf.mk (HU.out.below hbq)
          have HBd := Hf.mk (below_step HB.out hbq)
          have d0 := cell_below hbq c0
          have d2 := cell_below hbq c2
          have d4 := cell_below hbq c4
          have e4 := HUd.out.frozen (k + 16)
          generalize wr.drewN nq = wd at hbq HUd HBd d0 d2 d4 e4 ⊢
          clear c0 c1 c2 c3 c4 f4 HU HB hbq w1 w2
          have w3 : (k : Int) < 64 := by omega
          have w4 : (k : Int) + 9 < 64 := by omega
          have w5 : (0 : Int) ≤ (k : Int) + 9 := by omega
          have w6 : ((k : Int) + 9).toNat = k + 9 := by omega
          have w7 : (0 : Int) ≤ (k : Int) + 16 := by omega
          have w8 : ((k : Int) + 16).toNat = k + 16 := by omega
          have w1 : IntKind.i64.wrap (k : Int) = (k : Int) := by rw [IntKind.wrap_i64]; omega
          have w2 : IntKind.i64.wrap ((k : Int) + 16 - 7) = (k : Int) + 9 := by rw [IntKind.wrap_i64]; omega
          go_wp2_with fail
          go_still_tail 29, (by kernel_rfl)
          still_call (turned_s _ x1 rfl HL1.out 7 7 rfl (by omega) (by omega) _)
          repeat still_step
          still_call (turned_s _ x1 rfl HL1.out 18 18 rfl (by omega) (by omega) _)
          repeat still_step
          still_call (turned_s _ x3 rfl HL3.out 17 17 rfl (by omega) (by omega) _)
          repeat still_step
          still_call (turned_s _ x3 rfl HL3.out 19 19 rfl (by omega) (by omega) _)
          repeat still_step
          refine wpStill_nil ?_
          change wpList _ _ _ _ _ wd.drew
          go_wp2_with fail
          go_roundw
          case rel =>
            refine ⟨k + 1, by omega, by rw [show (((k + 1 : Nat) : Int) + 16) = (k : Int) + 16 + 1 by omega], ⟨?_⟩, ⟨(below_step HBd.out (Below.refl _ _).drew).setCell (Nat.le_refl _) _⟩⟩
            show RowU (wd.setCell ⟨w.heap.size, k + 16, none⟩ _) w.heap.size 131 64 _
            rw [sval x0 x1 x2 x3 HL1.out HL3.out, ← HW.out]
            refine HUd.out.set (by omega) _ fun i _ => ?_
            by_cases e1 : i = k + 16
            · subst e1; rw [if_pos (by omega), if_pos rfl]
            · rw [if_neg e1]
              by_cases e2 : i < k + 16
              · rw [if_pos (by omega), if_pos e2]
              · rw [if_neg (by omega), if_neg e2]
          case measure => simp [intOf]; omega
        · obtain rfl : k = 48 := by omega
          have hu : RowU wr w.heap.size 131 64 (Sha.W b) := HU.out.congr fun i hi => by rw [if_pos (by omega)]
          have hu1 := arrU_size 64 (Sha.W b)
          have hu2 := arrU_one 64 (Sha.W b)
          unfold RowU at hu
          obtain ⟨cs, hcs⟩ : ∃ cs, arrU 64 (Sha.W b) = cs := ⟨_, rfl⟩
          rw [hcs] at hu hu1 hu2
          have HH := Hf.mk hu
          have HS := Hf.mk hu1
          have HO := Hf.mk hu2
          have HC := Hf.mk hcs
          clear hu hu1 hu2 hcs hz
          have hge : (64 : Int) ≤ ((48 : Nat) : Int) + 16 := by omega
          go_wp2_with (first
            | (with_reducible refine wpList_load_row rfl 131 _ rfl w.heap.size rfl 131 cs (0, 0) _ HH.out Try.underlying131 rfl (size131.trans (by rw [HS.out])) ?_)
            | (with_reducible refine wpList_store_row rfl 131 _ _ rfl w.heap.size cs rfl rfl 131 cs HH.out (size131.trans (by rw [HS.out])) rfl HO.out ?_))
          refine bodyPost_ret (results_cell_row rfl _ _ w.heap.size 131 cs (0, 0) _ rfl (setRow_heap _ _ cs cs 131 (0, 0) HH.out) Try.underlying131 rfl (size131.trans (by rw [HS.out]))) rfl ⟨by rw [HC.out], ?_⟩
          exact Below.setRow' HB.out (Nat.le_refl _) _
end Go.Proofs.Ytaaepadhapfkoaa
