/-
  Reads: rows of one note alike; the chapter's Get, its answer, and what is had.
-/
import Derived.Test.YtaaepadhapfkoaaRdR
namespace Go.Proofs.Ytaaepadhapfkoaa
set_option linter.unusedSimpArgs false
set_option linter.unusedVariables false
open Go.RowKit

theorem range_below {w w' : World} {g o B : Nat} {cs : List Value} (h : w.rangeAt g o cs) (hb : Below B w w') (hg : g < B) : w'.rangeAt g o cs := fun j v hv => (hb.cell (p := ⟨g, o + j, none⟩) hg).trans (h j v hv)
set_option maxHeartbeats 4000000 in
set_option maxRecDepth 100000 in
theorem sameNotes_one (kind me who cn cb cc : Int) (id : List Nat) (g c g2 c2 : Nat) (w : World) (hl : id.length = 32) (hb : ∀ x ∈ id, x < 256) (hg : g < w.heap.size) (hg2 : g2 < w.heap.size)
    (h1 : w.rangeAt g 0 (nt kind me who cn cb cc 0 false id (.slice none 0 0))) (h2 : w.rangeAt g2 0 (nt kind me who cn cb cc 0 false id (.slice none 0 0))) :
    Calls Try.prog 90 #[.slice (some ⟨g, 0, none⟩) 1 c, .slice (some ⟨g2, 0, none⟩) 1 c2] w fun e w' => e = .returned (.bool true) ∧ Below w.heap.size w w' := by
  have HSN := Hf.mk (fun u => sameNote_get kind me who cn cb cc id u hl hb)
  have hcl : (Try.prog.info? 69).map (·.size) = some (nt kind me who cn cb cc 0 false id (.slice none 0 0)).length := by rw [nt_len _ _ _ _ _ _ _ _ hl]; exact size69
  generalize nt kind me who cn cb cc 0 false id (.slice none 0 0) = ns at *
  have hu69 := Try.underlying69
  go_enter Try.func90, Try.ntmps90
  go_wp2
  go_loopw [5] (fun i wr => ∃ k : Nat, k ≤ 1 ∧ i = .int .i64 k ∧ Hf (Below w.heap.size w wr)) (fun i _ => 1 - (intOf i).toNat)
  case atStart => exact ⟨0, by omega, rfl, ⟨Below.refl _ _⟩⟩
  case round =>
    obtain ⟨k, hk, rfl, HB⟩ := hrel
    by_cases hgo : k < 1
    · obtain rfl : k = 0 := by omega
      have HR1 : Hf (∀ u, Below w.heap.size w u → u.rangeAt g 0 ns) := ⟨fun u hu => range_below h1 hu hg⟩
      have HR2 : Hf (∀ u, Below w.heap.size w u → u.rangeAt g2 0 ns) := ⟨fun u hu => range_below h2 hu hg2⟩
      have HE107 : Hf (∀ args u, (callFunc 107 args).run Try.prog u = .ok (.enter 107 args) u) := ⟨enters_of Try.func107 (by kernel_rfl) rfl⟩
      go_upto_region 6 with fail
      refine wp_region_quiet (C := fun W' => Below w.heap.size w W') (by kernel_rfl) (by kernel_rfl) HB.out.drew ?_
      simp only [List.toList_toArray]
      (refine wpQuiet_step (fun K hK => ?_); go_simp; (first | refine ⟨_, fun _ _ => rfl, hK _ ?_⟩ | refine hK _ ?_); clear hK K)
      (refine wpQuiet_step (fun K hK => ?_); go_simp; (first | refine ⟨_, fun _ _ => rfl, hK _ ?_⟩ | refine hK _ ?_); clear hK K)
      (refine wpQuiet_step (fun K hK => ?_); go_simp; (first | refine ⟨_, fun _ _ => rfl, hK _ ?_⟩ | refine hK _ ?_); clear hK K)
      refine qstep_loadm (by rfl) 69 (.tmp 19) (by rfl) g 0 (by rfl) ns _ HR1.out Try.underlying69 rfl hcl ?_
      (refine wpQuiet_step (fun K hK => ?_); go_simp; (first | refine ⟨_, fun _ _ => rfl, hK _ ?_⟩ | refine hK _ ?_); clear hK K)
      (refine wpQuiet_step (fun K hK => ?_); go_simp; (first | refine ⟨_, fun _ _ => rfl, hK _ ?_⟩ | refine hK _ ?_); clear hK K)
      (refine wpQuiet_step (fun K hK => ?_); go_simp; (first | refine ⟨_, fun _ _ => rfl, hK _ ?_⟩ | refine hK _ ?_); clear hK K)
      refine qstep_loadm (by rfl) 69 (.tmp 23) (by rfl) g2 0 (by rfl) ns _ HR2.out Try.underlying69 rfl hcl ?_
      refine qstep_call (by rfl) 107 #[.tmp 20, .tmp 24] #[69, 69] rfl #[.agg ns.toArray, .agg ns.toArray] (by simp [Act.eval, Act.put]) (.bool true) HE107.out (fun u hu => (HSN.out u).mono fun e w'' h => ⟨h.1, below_step hu h.2⟩) ?_
      (refine wpQuiet_step (fun K hK => ?_); go_simp; (first | refine ⟨_, fun _ _ => rfl, hK _ ?_⟩ | refine hK _ ?_); clear hK K)
      refine wpQuiet_nil ?_
      intro w2 hW2
      have HW2 := Hf.mk hW2
      clear hW2
      go_wp2
      go_roundw
      case rel => exact ⟨1, by omega, by go_num, HW2⟩
      case measure => simp [intOf]
    · obtain rfl : k = 1 := by omega
      go_wp2
      go_ret
      exact ⟨rfl, HB.out⟩
end Go.Proofs.Ytaaepadhapfkoaa
