/-
  The matrix of the program: times, square.
-/
import Derived.Test.YtofdbghklpeamaaTab
namespace Go.Proofs.Ytofdbghklpeamaa
open Go.RowKit

theorem bit_one (x k : Nat) (hx : x < 4294967296) : bits BinOp.and IntKind.u32 ((x : Int) / 2 ^ k) 1 = ((x / 2 ^ k % 2 : Nat) : Int) := by
  have e : ((x : Int) / 2 ^ k) = ((x / 2 ^ k : Nat) : Int) := by push_cast; rfl
  rw [e, ← Nat.and_one_is_mod]
  exact u32_and_nat _ 1 (Nat.lt_of_le_of_lt (Nat.div_le_self _ _) hx) (by omega)
set_option maxHeartbeats 800000 in
theorem times_any (m : Nat → Nat) (hm : ∀ i, i < 32 → m i < 4294967296) (cs : Array Value) (hcs : ∀ i, i < 32 → cs[i]? = some (.int .u32 (m i : Nat)))
    (x : Nat) (hx : x < 4294967296) (w : World) :
    Calls Try.prog 26 #[.agg cs, .int .u32 x] w fun e w' => e = .returned (.int .u32 (Crc.timesTo m x 32)) ∧ Below w.heap.size w w' := by
  have Hm := Lib.hid hm
  have Hcs := Lib.hid hcs
  clear hm hcs
  go_enter Try.func26, Try.ntmps26
  go_wp2
  go_loop [5, 7] (fun v i => ∃ k : Nat, k ≤ 32 ∧ i = .int .i64 k ∧ v = .int .u32 (Crc.timesTo m x k)) (fun _ i => 32 - (intOf i).toNat)
  case atStart => exact ⟨0, by omega, rfl, rfl⟩
  case round =>
    obtain ⟨k, hk, rfl, rfl⟩ := hrel
    have hy := Crc.timesTo_lt m x k (fun i hi => Hm.out i (by omega))
    obtain ⟨y, hyy⟩ : ∃ y, y = Crc.timesTo m x k := ⟨_, rfl⟩
    rw [← hyy] at hy ⊢
    by_cases hlt : k < 32
    · have hg := Hcs.out k hlt
      have hml := Hm.out k hlt
      obtain ⟨c, hc⟩ : ∃ c, c = m k := ⟨_, rfl⟩
      rw [← hc] at hg hml
      have H := Lib.hid hyy
      have Hc := Lib.hid hc
      clear hyy hc
      have hb1 := bit_one x k hx
      by_cases hb : x / 2 ^ k % 2 = 1
      · have hb' : (bits BinOp.and IntKind.u32 ((x : Int) / 2 ^ k) 1 == 1) = true := by rw [hb1, hb]; rfl
        clear hb1
        have Hb := Lib.hid hb
        clear hb
        go_wp2
        go_round
        case rel => exact ⟨k + 1, by omega, by go_num, vint (by rw [u32xor _ _ y c rfl rfl hy hml, Crc.timesTo, if_pos Hb.out, ← H.out, ← Hc.out])⟩
        case measure => simp [intOf]; omega
      · have hb2 : x / 2 ^ k % 2 = 0 := by omega
        have hb' : (bits BinOp.and IntKind.u32 ((x : Int) / 2 ^ k) 1 == 1) = false := by rw [hb1, hb2]; rfl
        clear hb1
        have Hb := Lib.hid hb
        clear hb hb2
        go_wp2
        go_round
        case rel => exact ⟨k + 1, by omega, by go_num, vint (by rw [Crc.timesTo, if_neg Hb.out, ← H.out])⟩
        case measure => simp [intOf]; omega
    · have hk' : k = 32 := by omega
      rw [hk'] at hyy
      have H := Lib.hid hyy
      clear hyy hk'
      go_wp2
      go_ret
      exact ⟨retu32 (by rw [H.out]), (Below.refl _ _).alloc (Nat.le_refl _) _⟩

theorem size45 : (Try.prog.info? 45).map (·.size) = some 32 := by kernel_rfl
theorem size22 : (Try.prog.info? 22).map (·.size) = some 1 := by kernel_rfl
def zeros32 : Array Value := Array.replicate 32 (.int .u32 0)
theorem zeros32_row (f : Nat → Nat) : zeros32 = rowTo 32 f 0 := by
  apply Array.ext_getElem?
  intro i
  rw [zeros32, Array.getElem?_replicate, rowTo_at]
  simp only [Nat.not_lt_zero, if_false]
theorem zero45 (w : World) : (zeroValue 45).run Try.prog w = .ok (.agg zeros32) w := by kernel_rfl
/-- an element of a whole array that holds one cell an element -/
theorem run_index45 (w : World) (cs : Array Value) (k : Nat) (v : Value) (hk : k < 32) (h : cs[k]? = some v) : (Instr.index 45 (.agg cs) (.int .i64 k)).run Try.prog w = .ok v w := by
  have h1 : (0 : Int) ≤ (k : Int) ∧ (k : Int) < 32 := by omega
  obtain ⟨i22, hi, hs⟩ : ∃ i, Try.prog.info? 22 = some i ∧ i.size = 1 := by
    have := size22
    cases hq : Try.prog.info? 22 with
    | none => simp [hq] at this
    | some i => exact ⟨i, rfl, by simpa [hq] using this⟩
  have h2 : k < 32 := hk
  simp [Instr.index, run_underlying Try.underlying45, asIntOf, h1, h2, sizeOf, typeInfo, hi, hs, part, isAgg, run_underlying Try.underlying22, h]

theorem heap_alloc3_0 (w : World) (A B C : Obj) : (((w.alloc A).alloc B).alloc C).heap[w.heap.size]? = some A := by
  rw [Below.heap_alloc _ C w.heap.size (by simp; omega), Below.heap_alloc _ B w.heap.size (by simp)]; exact heap_alloc_new _ _
theorem heap_alloc3_1 (w : World) (A B C : Obj) : (((w.alloc A).alloc B).alloc C).heap[w.heap.size + 1]? = some B := by
  rw [Below.heap_alloc _ C (w.heap.size + 1) (by simp)]; exact heap_alloc2_new _ _ _
theorem heap_alloc3_2 (w : World) (A B C : Obj) : (((w.alloc A).alloc B).alloc C).heap[w.heap.size + 1 + 1]? = some C := by
  have := heap_alloc_new ((w.alloc A).alloc B) C
  simpa using this
set_option maxHeartbeats 800000 in
theorem square_any (m : Nat → Nat) (hm : ∀ i, i < 32 → m i < 4294967296) (cs : Array Value) (hsz : cs.size = 32) (hcs : ∀ i, i < 32 → cs[i]? = some (.int .u32 (m i : Nat))) (w : World) :
    Calls Try.prog 27 #[.agg cs] w fun e w' => e = .returned (.agg (rowTo 32 (fun i => Crc.timesTo m (m i) 32) 32)) ∧ Below w.heap.size w w' := by
  have hz := zero45
  obtain ⟨zs, hzs⟩ : ∃ zs, zs = zeros32 := ⟨_, rfl⟩
  have hzz : zs.size = 32 := by rw [hzs]; exact Array.size_replicate
  have hz0 := zeros32_row (fun i => Crc.timesTo m (m i) 32)
  rw [← hzs] at hz hz0
  have Hz0 := Lib.hid hz0
  have Hzz := Lib.hid hzz
  have Hm := Lib.hid hm
  have Hcs := Lib.hid hcs
  have Hsz := Lib.hid hsz
  clear hm hcs hsz hzz hzs hz0
  go_enter Try.func27, Try.ntmps27
  go_wp2_with (with_reducible refine wpList_load_row rfl 45 _ rfl w.heap.size rfl 45 cs (0, 0) _ (heap_alloc3_0 _ _ _ _) Try.underlying45 rfl (size45.trans (by rw [Hsz.out])) ?_)
  go_loopw [7] (fun i wr => ∃ k : Nat, k ≤ 32 ∧ i = .int .i64 k ∧ wr.heap[w.heap.size]? = some (.cells cs 45 (0, 0)) ∧ wr.heap[w.heap.size + 1]? = some (.cells zs 45 (0, 0)) ∧
      wr.heap[w.heap.size + 1 + 1]? = some (.cells (rowTo 32 (fun i => Crc.timesTo m (m i) 32) k) 45 (0, 0)) ∧ Below w.heap.size w wr) (fun i _ => 32 - (intOf i).toNat)
  case atStart => exact ⟨0, by omega, rfl, heap_alloc3_0 _ _ _ _, heap_alloc3_1 _ _ _ _, by rw [heap_alloc3_2, ← Hz0.out], (((Below.refl _ _).alloc (Nat.le_refl _) _).alloc (by simp) _).alloc (by simp; omega) _⟩
  case round =>
    obtain ⟨k, hk, rfl, h0, h1, h2, hb⟩ := hrel
    by_cases hlt : k < 32
    · have hml := Hm.out k hlt
      have hix := fun u => run_index45 u cs k _ hlt (Hcs.out k hlt)
      obtain ⟨c, hc⟩ : ∃ c, c = m k := ⟨_, rfl⟩
      rw [← hc] at hix hml
      obtain ⟨rs, hrs⟩ : ∃ rs, rs = rowTo 32 (fun i => Crc.timesTo m (m i) 32) k := ⟨_, rfl⟩
      have hset := rowTo_set 32 (fun i => Crc.timesTo m (m i) 32) k hlt
      have hr0 : rs[k]? = some (.int .u32 0) := by rw [hrs, rowTo_at, if_pos hlt, if_neg (by omega)]
      rw [← hrs] at h2 hset
      simp only [← hc] at hset
      have hs0 : w.heap.size < wr.heap.size := (Array.getElem?_eq_some_iff.1 h0).1
      have hs2 : w.heap.size + 1 + 1 < wr.heap.size := (Array.getElem?_eq_some_iff.1 h2).1
      have H0 := Lib.hid h0
      have H1 := Lib.hid h1
      have H2 := Lib.hid h2
      have Hset := Lib.hid hset
      have Hb := Lib.hid hb
      clear h0 h1 h2 hset hrs hb hc
      go_wp2_with (first
        | (with_reducible refine wpList_load_row rfl 45 _ rfl w.heap.size rfl 45 cs (0, 0) _ H0.out Try.underlying45 rfl (size45.trans (by rw [Hsz.out])) ?_)
        | (go_at_call 26; (with_reducible refine (times_any m Hm.out cs Hcs.out c hml _).mono ?_); rintro e w1 ⟨rfl, hb1⟩; have Hb1 := Lib.hid hb1; have h20 := (hb1.block _ hs2).trans H2.out; have hcell : w1.cell? ⟨w.heap.size + 1 + 1, k, none⟩ = some (.int .u32 0) := (cell_of_row _ _ _ _ _ _ h20).trans hr0; have hfr := frozen_of_row w1 _ k _ _ h20; have H20 := Lib.hid h20; clear hb1 h20))
      go_roundw
      case rel =>
        refine ⟨k + 1, by omega, by go_num, ?_, ?_, ?_, ?_⟩
        · rw [heap_setCell_other _ _ _ _ (by simp; omega)]; exact (Hb1.out.block _ hs0).trans H0.out
        · rw [heap_setCell_other _ _ _ _ (by simp)]; exact (Hb1.out.block _ (by omega)).trans H1.out
        · rw [heap_setCell_same _ _ _ _ _ _ H20.out, Hset.out]
        · exact (Hb.out.trans (Hb1.out.mono (by omega))).setCell (by simp; omega) _
      case measure => simp [intOf]; omega
    · have hk' : k = 32 := by omega
      obtain ⟨rs, hrs⟩ : ∃ rs, rs = rowTo 32 (fun i => Crc.timesTo m (m i) 32) k := ⟨_, rfl⟩
      have hrz : rs.size = 32 := by rw [hrs]; exact rowTo_size _ _ _
      have hone : rs.all (·.oneCell') = true := by rw [hrs]; exact rowTo_one _ _ _
      rw [← hrs] at h2
      rw [hk'] at hrs
      have Hrz := Lib.hid hrz
      have Hone := Lib.hid hone
      have H1 := Lib.hid h1
      have H2 := Lib.hid h2
      have Hb := Lib.hid hb
      have Hrs := Lib.hid hrs
      clear h0 h1 h2 hb hrs hrz hone hk'
      go_wp2_with (first
        | (with_reducible refine wpList_load_row rfl 45 _ rfl (w.heap.size + 1 + 1) rfl 45 rs (0, 0) _ H2.out Try.underlying45 rfl (size45.trans (by rw [Hrz.out])) ?_)
        | (with_reducible refine wpList_store_row rfl 45 _ _ rfl (w.heap.size + 1) rs rfl rfl 45 zs H1.out (size45.trans (by rw [Hrz.out])) (Hzz.out.trans Hrz.out.symm) Hone.out ?_))
      refine bodyPost_ret (results_cell_row rfl _ _ (w.heap.size + 1) 45 rs (0, 0) _ rfl (setRow_heap _ _ zs rs 45 (0, 0) H1.out) Try.underlying45 rfl (size45.trans (by rw [Hrz.out]))) rfl ⟨by rw [Hrs.out], ?_⟩
      exact Below.setRow' Hb.out (by omega) _
end Go.Proofs.Ytofdbghklpeamaa
