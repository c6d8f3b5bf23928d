/-
  Digest: the digits' numbers, as a map.
-/
import Derived.Test.YtaaepadhapfkoaaDgG
import Derived.Maps.OwnSet
import Derived.Lib.SmallJoins
import Derived.Maps.OwnOps
namespace Go.Proofs.Ytaaepadhapfkoaa
set_option linter.unusedSimpArgs false
set_option linter.unusedVariables false
open Go.RowKit Go.Maps

theorem law5 : Keyed Try.prog 5 := int_keyed Try.underlying5
theorem zero5 (w : World) : (zeroValue 5).run Try.prog w = .ok (.int .u8 0) w := by kernel_rfl
/-- the map behind so many digits -/
def hexM (k : Nat) : DataW Unit := (List.range k).foldl (fun D i => D.put (.int .u8 (hexD i).toNat) (.lit (.int .u8 i))) (.map [])
theorem hexM_step (k : Nat) : hexM (k + 1) = (hexM k).put (.int .u8 (hexD k).toNat) (.lit (.int .u8 k)) := by
  unfold hexM
  rw [List.range_succ, List.foldl_append]
  rfl
def litN : DataW Unit → Int
  | .lit (.int _ n) => n
  | _ => -5
theorem hexM_all : (List.range 256).all (fun c => has (hexM 16) (.int .u8 c) == decide (0 ≤ dgt c) && decide (litN ((hexM 16).atKey (.int .u8 c) (.lit (.int .u8 0))) = if 0 ≤ dgt c then dgt c else 0)) = true := by kernel_rfl
theorem hexM_has (c : Nat) (h : c < 256) : has (hexM 16) (.int .u8 c) = decide (0 ≤ dgt c) := by
  have := List.all_eq_true.1 hexM_all c (List.mem_range.2 h)
  simp only [Bool.and_eq_true, beq_iff_eq, decide_eq_true_eq] at this
  exact this.1
theorem hexM_at (c : Nat) (h : c < 256) : litN ((hexM 16).atKey (.int .u8 c) (.lit (.int .u8 0))) = if 0 ≤ dgt c then dgt c else 0 := by
  have := List.all_eq_true.1 hexM_all c (List.mem_range.2 h)
  simp only [Bool.and_eq_true, beq_iff_eq, decide_eq_true_eq] at this
  exact this.2
def hexN : List Nat := [48, 49, 50, 51, 52, 53, 54, 55, 56, 57, 97, 98, 99, 100, 101, 102]
theorem wf_u8 {n : Nat} (h : n < 256) : (Lit.int .u8 n).wf = true := by
  show (decide ((0 : Int) ≤ (n : Int)) && decide ((n : Int) ≤ 255)) = true
  rw [decide_eq_true (by omega), decide_eq_true (by omega)]
  rfl
theorem hexN_at (k : Nat) (h : k < 16) : hexN.getD k 0 = (hexD k).toNat := by
  have h2 : k = 0 ∨ k = 1 ∨ k = 2 ∨ k = 3 ∨ k = 4 ∨ k = 5 ∨ k = 6 ∨ k = 7 ∨ k = 8 ∨ k = 9 ∨ k = 10 ∨ k = 11 ∨ k = 12 ∨ k = 13 ∨ k = 14 ∨ k = 15 := by omega
  rcases h2 with rfl | rfl | rfl | rfl | rfl | rfl | rfl | rfl | rfl | rfl | rfl | rfl | rfl | rfl | rfl | rfl <;> rfl
set_option maxHeartbeats 1000000 in
set_option maxRecDepth 100000 in
theorem digits_any (w : World) : Calls Try.prog 55 #[] w fun e w' => e = .returned (.map (some w.heap.size)) ∧ w'.ownsMap Try.prog 5 (plainElem Try.prog 5) w.heap.size 16 (hexM 16) ∧ Below w.heap.size w w' := by
  have hmm := @run_makeMap Try.prog
  have kc := fun (C : Array Value) => Go.Joins.run_convert_bytes_const_at (P := Try.prog) (w.alloc (.map #[] 0)) 54 5 C 16 16 (w.heap.size + 1) (by simp) Try.underlying54 Try.underlying5
  go_enter Try.func55, Try.ntmps55
  go_wp2
  have ecs : (#[Value.int IntKind.u8 48, Value.int IntKind.u8 49, Value.int IntKind.u8 50, Value.int IntKind.u8 51,
                Value.int IntKind.u8 52, Value.int IntKind.u8 53, Value.int IntKind.u8 54, Value.int IntKind.u8 55,
                Value.int IntKind.u8 56, Value.int IntKind.u8 57, Value.int IntKind.u8 97, Value.int IntKind.u8 98,
                Value.int IntKind.u8 99, Value.int IntKind.u8 100, Value.int IntKind.u8 101, Value.int IntKind.u8 102] : Array Value) = (cellsOf hexN).toArray := rfl
  rw [ecs]
  have h1 := World.ownsMap_made (H := Unit) w Try.prog 5 (plainElem Try.prog 5)
  have h2 : ((w.alloc (.map #[] 0)).alloc (.cells (cellsOf hexN).toArray 5 (16, 17))).heap[w.heap.size + 1]? = some (.cells (cellsOf hexN).toArray 5 (16, 17)) := by
    have := heap_alloc_new (w.alloc (.map #[] 0)) (.cells (cellsOf hexN).toArray 5 (16, 17))
    rwa [World.size_alloc] at this
  have HO := Hf.mk (h1.alloc (.cells (cellsOf hexN).toArray 5 (16, 17)))
  have HR := Hf.mk h2
  have HB : Hf (Below w.heap.size w ((w.alloc (.map #[] 0)).alloc (.cells (cellsOf hexN).toArray 5 (16, 17)))) := ⟨((Below.refl _ _).alloc (Nat.le_refl _) _).alloc (by simp) _⟩
  have hsz : ((w.alloc (.map #[] 0)).alloc (.cells (cellsOf hexN).toArray 5 (16, 17))).heap.size = w.heap.size + 2 := by simp
  clear h1 h2 kc hmm ecs
  have HC : Hf (∀ k, k < 16 → (cellsOf hexN).toArray[k]? = some (.int .u8 (hexD k).toNat)) := ⟨fun k hk => by
    rw [← hexN_at k hk]
    simpa using cellsOf_at (l := hexN) (j := k) hk⟩
  generalize (cellsOf hexN).toArray = cs at *
  try simp only [show cs.size = 16 from rfl]
  generalize (w.alloc (.map #[] 0)).alloc (.cells cs 5 (16, 17)) = W at HO HR HB hsz ⊢
  go_loopw [8] (fun i wr => ∃ k : Nat, k ≤ 16 ∧ i = .int .i64 k ∧ Hf (wr.ownsMap Try.prog 5 (plainElem Try.prog 5) w.heap.size k (hexM k)) ∧ Hf (wr.heap[w.heap.size + 1]? = some (.cells cs 5 (16, 17))) ∧ Hf (Below w.heap.size w wr)) (fun i _ => 16 - (intOf i).toNat)
  case atStart => exact ⟨0, by omega, rfl, HO, HR, HB⟩
  case round =>
    obtain ⟨k, hk, rfl, HO1, HR1, HB1⟩ := hrel
    by_cases hgo : k < 16
    · have hgo2 : (k : Int) < 16 := by omega
      have c0 := Go.Joins.cell_of_block HR1.out k
      rw [HC.out k hgo] at c0
      have hst := hexM_step k
      obtain ⟨h, hh⟩ : ∃ h, (hexD k).toNat = h := ⟨_, rfl⟩
      have hlt : h < 256 := by rw [← hh]; exact (hexD k).toNat_lt
      rw [hh] at c0 hst
      have HST := Hf.mk hst
      clear hst hh
      have hlt2 : (h : Int) < 256 := by omega
      have HK : Hf (keyOf Try.prog 5 (.int .u8 h) = some (.int .u8 h)) := ⟨keyOf_int_mk Try.underlying5 (wf_u8 hlt)⟩
      have HV : Hf (plainElem (H := Unit) Try.prog 5 (.int .u8 k) = some (.lit (.int .u8 k), [])) := ⟨plainElem_int Try.underlying5 (wf_u8 (by omega))⟩
      have HMX : Hf (k < maxLen) := ⟨by unfold maxLen; omega⟩
      go_wp2_with (first | (at_mapUpdate; refine wpList_mapUpdate_own _ rfl _ _ _ 99 rfl 5 5 law5 Try.underlying99 _ w.heap.size k _ rfl HO1.out HMX.out (.int .u8 h) (.int .u8 k) _ rfl rfl HK.out (.lit (.int .u8 k)) [] HV.out ?_; intro w1 hown1 hgrow1; have HO2 := Hf.mk hown1; have HG := Hf.mk hgrow1; clear hown1 hgrow1) | go_in)
      go_roundw
      case rel => exact ⟨k + 1, by omega, by go_num, ⟨by rw [HST.out]; exact HO2.out⟩, ⟨(HG.out.block _ (Array.getElem?_eq_some_iff.1 HR1.out).1 (by simp)).trans HR1.out⟩, ⟨HB1.out.grown HG.out HB1.out.size (fun j hj => by cases hj; exact Nat.le_refl _)⟩⟩
      case measure => simp [intOf]; omega
    · obtain rfl : k = 16 := by omega
      go_wp2
      go_ret
      exact ⟨rfl, HO1.out, HB1.out⟩
end Go.Proofs.Ytaaepadhapfkoaa
