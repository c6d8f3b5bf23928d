/-
  Reads: the library's slices.DeleteFunc, slices.ContainsFunc at this program's instances and closures.
-/
import Derived.Test.YtaaepadhapfkoaaRdL
import Derived.Shelf.SlicesE.DeleteFunc
import Derived.Shelf.SlLaysH
import Derived.Sort.OwnSortedInts
namespace Go.Proofs.Ytaaepadhapfkoaa
set_option linter.unusedSimpArgs false
set_option linter.unusedVariables false
open Go.RowKit Go.Shelf

def Try.delI_ren : Go.Shelf.Ren := ⟨fun | 10 => 73 | 6 => 102 | n => n, fun | 22 => 34 | 23 => 3 | 25 => 120 | 3 => 3 | 4 => 4 | 0 => 0 | n => n, fun | n => n⟩
theorem Try.delI : Go.Proofs.SlLaysH.n10 Try.prog Try.delI_ren := {
  mixed := by kernel_rfl
  f6 := ⟨ "slices.IndexFunc[[]int,int]", by decide, Try.func102.trans (congrArg some (by kernel_rfl))⟩
  f10 := ⟨ "slices.DeleteFunc[[]int,int]", by decide, Try.func73.trans (congrArg some (by kernel_rfl))⟩
  t0 := Try.underlying0
  a0 := Try.isAgg0
  z0 := Try.sizeOf0
  v0 := Try.zeroValue0
  t3 := Try.underlying3
  a3 := Try.isAgg3
  z3 := Try.sizeOf3
  v3 := Try.zeroValue3
  t4 := Try.underlying4
  a4 := Try.isAgg4
  z4 := Try.sizeOf4
  v4 := Try.zeroValue4
  t22 := Try.underlying34
  a22 := Try.isAgg34
  z22 := Try.sizeOf34
  v22 := Try.zeroValue34
  a23 := Try.isAgg3
  z23 := Try.sizeOf3
  t25 := Try.underlying120
  a25 := Try.isAgg120
  z25 := Try.sizeOf120
  v25 := Try.zeroValue120 }
def Try.conI_ren : Go.Shelf.Ren := ⟨fun | 8 => 70 | 6 => 102 | n => n, fun | 22 => 34 | 23 => 3 | 25 => 120 | 4 => 4 | 3 => 3 | 0 => 0 | n => n, fun | n => n⟩
theorem Try.conI : Go.Proofs.SlLaysH.n8 Try.prog Try.conI_ren := {
  mixed := by kernel_rfl
  f6 := ⟨ "slices.IndexFunc[[]int,int]", by decide, Try.func102.trans (congrArg some (by kernel_rfl))⟩
  f8 := ⟨ "slices.ContainsFunc[[]int,int]", by decide, Try.func70.trans (congrArg some (by kernel_rfl))⟩
  t0 := Try.underlying0
  a0 := Try.isAgg0
  z0 := Try.sizeOf0
  v0 := Try.zeroValue0
  t3 := Try.underlying3
  a3 := Try.isAgg3
  z3 := Try.sizeOf3
  v3 := Try.zeroValue3
  t4 := Try.underlying4
  a4 := Try.isAgg4
  z4 := Try.sizeOf4
  v4 := Try.zeroValue4
  t22 := Try.underlying34
  a22 := Try.isAgg34
  z22 := Try.sizeOf34
  v22 := Try.zeroValue34
  a23 := Try.isAgg3
  z23 := Try.sizeOf3
  t25 := Try.underlying120
  a25 := Try.isAgg120
  z25 := Try.sizeOf120
  v25 := Try.zeroValue120 }
def Try.conK_ren : Go.Shelf.Ren := ⟨fun | 8 => 87 | 6 => 106 | n => n, fun | 22 => 146 | 23 => 122 | 25 => 147 | 4 => 4 | 3 => 3 | 0 => 0 | n => n, fun | n => n⟩
theorem Try.conK : Go.Proofs.SlLaysH.n8 Try.prog Try.conK_ren := {
  mixed := by kernel_rfl
  f6 := ⟨ "slices.IndexFunc[[]chartulary/reads.known,chartulary/reads.known]", by decide, Try.func106.trans (congrArg some (by kernel_rfl))⟩
  f8 := ⟨ "slices.ContainsFunc[[]chartulary/reads.known,chartulary/reads.known]", by decide, Try.func87.trans (congrArg some (by kernel_rfl))⟩
  t0 := Try.underlying0
  a0 := Try.isAgg0
  z0 := Try.sizeOf0
  v0 := Try.zeroValue0
  t3 := Try.underlying3
  a3 := Try.isAgg3
  z3 := Try.sizeOf3
  v3 := Try.zeroValue3
  t4 := Try.underlying4
  a4 := Try.isAgg4
  z4 := Try.sizeOf4
  v4 := Try.zeroValue4
  t22 := Try.underlying146
  a22 := Try.isAgg146
  z22 := Try.sizeOf146
  v22 := Try.zeroValue146
  a23 := Try.isAgg122
  z23 := Try.sizeOf122
  t25 := Try.underlying147
  a25 := Try.isAgg147
  z25 := Try.sizeOf147
  v25 := Try.zeroValue147 }

theorem pred88 (w : World) : PredAt Try.prog 88 #[] (Value.int .u8) (fun x : Int => x != 2) w := fun W x _ => by
  show Calls Try.prog 88 #[.int .u8 x] W _
  go_enter Try.func88, Try.ntmps88
  go_wp2
  all_goals (go_ret; exact ⟨by simp_all, 0, rfl⟩)
theorem pred71 (w : World) : PredAt Try.prog 71 #[] (Value.int .i64) (fun x : Int => decide (x < 1) || decide (2147483647 < x)) w := fun W x _ => by
  show Calls Try.prog 71 #[.int .i64 x] W fun e w' => e = .returned (.bool (decide (x < 1) || decide (2147483647 < x))) ∧ ∃ q, w' = W.drewN q
  by_cases h1 : x < 1
  · have h : (decide (x < 1) || decide (2147483647 < x)) = true := by simp [h1]
    rw [h]
    go_enter Try.func71, Try.ntmps71
    go_wp2
    all_goals (go_ret; exact ⟨by simp_all, 0, rfl⟩)
  · by_cases h2 : 2147483647 < x
    · have h : (decide (x < 1) || decide (2147483647 < x)) = true := by simp [h2]
      rw [h]
      have h1' : 1 ≤ x := by omega
      clear h h1
      go_enter Try.func71, Try.ntmps71
      go_wp2
      all_goals (go_ret; exact ⟨by simp_all, 0, rfl⟩)
    · have h : (decide (x < 1) || decide (2147483647 < x)) = false := by simp [h1, h2]
      rw [h]
      have h1' : 1 ≤ x := by omega
      have h2' : x ≤ 2147483647 := by omega
      clear h h1 h2
      go_enter Try.func71, Try.ntmps71
      go_wp2
      all_goals (go_ret; exact ⟨by simp_all, 0, rfl⟩)
theorem gives72 (me x : Int) (B : Nat) (W : World) (hc : W.cell? ⟨B, 0, none⟩ = some (.int .i64 me)) :
    FnGives Try.prog 72 #[.pointer (some ⟨B, 0, none⟩)] #[.int .i64 x] (.bool (x == me)) W := by
  show Calls Try.prog 72 #[.int .i64 x, .pointer (some ⟨B, 0, none⟩)] W _
  go_enter Try.func72, Try.ntmps72
  go_wp2
  all_goals (go_ret; exact ⟨by simp_all, 0, rfl⟩)
theorem pred72 (me : Int) (B : Nat) (w : World) (hB : B < w.heap.size) (hcell : w.cell? ⟨B, 0, none⟩ = some (.int .i64 me)) :
    PredAt Try.prog 72 #[.pointer (some ⟨B, 0, none⟩)] (Value.int .i64) (fun x => x == me) w :=
  fun W x hb => gives72 me x B W ((hb.cell (p := ⟨B, 0, none⟩) hB).trans hcell)
theorem over72 (me : Int) (B blk off size : Nat) (w : World) (hB : B < w.heap.size) (hne : B ≠ blk) (hcell : w.cell? ⟨B, 0, none⟩ = some (.int .i64 me)) :
    PredOver Try.prog 72 #[.pointer (some ⟨B, 0, none⟩)] (Value.int .i64) (fun x => x == me) blk off size w :=
  fun n os dk x _ => gives72 me x B _ (by
    unfold sortWorld
    rw [Sort.cell?_grow _ _ _ (by show B < (Sort.putRow _ _ _ _ _).heap.size; rw [Sort.size_putRow]; exact hB), Sort.cell?_putRow_other _ _ blk off _ _ (Or.inl hne)]
    exact hcell)
theorem enters88 : ∀ args w, (callFunc 88 args).run Try.prog w = .ok (.enter 88 args) w := enters_of Try.func88 (by kernel_rfl) rfl
theorem enters71 : ∀ args w, (callFunc 71 args).run Try.prog w = .ok (.enter 71 args) w := enters_of Try.func71 (by kernel_rfl) rfl
theorem enters72 : ∀ args w, (callFunc 72 args).run Try.prog w = .ok (.enter 72 args) w := enters_of Try.func72 (by kernel_rfl) rfl
/-- is not each of them 2? -/
theorem containsK_any (b off n c : Nat) (zs : List Int) (w : World) (hz : n ≤ zs.length) (hn : n ≤ 1000) (hc : ∀ j, j < zs.length → w.cell? ⟨b, off + j, none⟩ = some (.int .u8 (zs.getD j 0))) :
    Calls Try.prog 87 #[.slice (some ⟨b, off, none⟩) n c, .func (.func 88) #[] #[]] w fun e w' => e = .returned (.bool ((zs.take n).any (fun x => x != 2))) ∧ ∃ q, w' = w.drewN q := by
  have h := AnyE.slices_ContainsFunc Try.conK (Value.int .u8) (fun x : Int => x != 2) 88 #[] enters88 b off n c zs w (pred88 w) hz (by omega) (fun j hj => by rw [hc j hj, List.getD_eq_getElem?_getD, List.getElem?_eq_getElem hj, getElem!_pos zs j hj]; rfl)
  exact h
/-- is one of them not between 1 and the greatest? -/
theorem containsI_any (b off n c : Nat) (zs : List Int) (w : World) (hz : n ≤ zs.length) (hn : n ≤ 1000) (hc : ∀ j, j < zs.length → w.cell? ⟨b, off + j, none⟩ = some (.int .i64 (zs.getD j 0))) :
    Calls Try.prog 70 #[.slice (some ⟨b, off, none⟩) n c, .func (.func 71) #[] #[]] w fun e w' => e = .returned (.bool ((zs.take n).any (fun x => decide (x < 1) || decide (2147483647 < x)))) ∧ ∃ q, w' = w.drewN q := by
  have h := AnyE.slices_ContainsFunc Try.conI (Value.int .i64) (fun x : Int => decide (x < 1) || decide (2147483647 < x)) 71 #[] enters71 b off n c zs w (pred71 w) hz (by omega) (fun j hj => by rw [hc j hj, List.getD_eq_getElem?_getD, List.getElem?_eq_getElem hj, getElem!_pos zs j hj]; rfl)
  exact h
/-- all but one's own number -/
theorem deleteI_any (g cap : Nat) (cur : Array Value) (l : List Int) (me : Int) (B : Nat) (w : World) (hg : w.heap[g]? = some (.cells cur 3 (0, 0))) (hl : l.length ≤ 1000) (hcur : ∀ j, j < l.length → cur[j]? = some (.int .i64 (l.getD j 0))) (hcap : l.length ≤ cap)
    (hB : B < w.heap.size) (hne : B ≠ g) (hcell : w.cell? ⟨B, 0, none⟩ = some (.int .i64 me)) :
    Calls Try.prog 73 #[.slice (some ⟨g, 0, none⟩) l.length cap, .func (.func 72) #[] #[.pointer (some ⟨B, 0, none⟩)]] w fun e w' => e = .returned (.slice (some ⟨g, 0, none⟩) (l.filter fun x => !(x == me)).length cap) ∧
      RdI w' (some ⟨g, 0, none⟩) (l.filter fun x => !(x == me)) ∧ AtT w' (some ⟨g, 0, none⟩) 3 ∧ w.grownBy w' (some g) := by
  have hH : Sort.Holds (Value.int .i64) w g 0 l.toArray := fun j hj => by
    have hj' : j < l.length := by simpa using hj
    refine ⟨?_, Go.Joins.unfrozen_of_block hg _⟩
    rw [Nat.zero_add, Go.Joins.cell_of_block hg, hcur j hj', List.getD_eq_getElem?_getD, List.getElem?_eq_getElem hj', getElem!_pos l.toArray j hj]
    rfl
  have h := AnyE.slices_DeleteFunc Try.delI (Value.int .i64) (fun _ => rfl) (fun x => x == me) 72 #[.pointer (some ⟨B, 0, none⟩)] enters72 0 Try.zeroValue3 g 0 cap l.toArray w (pred72 me B w hB hcell) (over72 me B g 0 l.toArray.size w hB hne hcell) hH (by simp; omega) (by simpa using hcap)
  have e1 : l.toArray.size = l.length := by simp
  have e2 : l.toArray.toList = l := rfl
  rw [e1, e2] at h
  generalize hr : (l.filter fun x => !(x == me)) = r at h ⊢
  have hrl : r.length ≤ l.length := by rw [← hr]; exact List.length_filter_le _ _
  refine Calls.mono h fun e w' hh => ?_
  obtain ⟨he, q, rfl⟩ := hh
  have hlen : (r ++ List.replicate (l.length - r.length) (0 : Int)).length = l.length := by rw [List.length_append, List.length_replicate]; omega
  have hheap := heap_sortedI (w := w) (n := q) (os := #[]) (r ++ List.replicate (l.length - r.length) (0 : Int)).toArray hg
  have hgrow := grownBy_sortedI (w := w) (g := g) (n := q) (os := #[]) (r ++ List.replicate (l.length - r.length) (0 : Int)).toArray
  rw [Sort.grow_empty] at hheap hgrow
  refine ⟨he, fun i hi => ?_, fun ad ha => ?_, hgrow⟩
  · refine ⟨g, 0, rfl, (Array.getElem?_eq_some_iff.1 hheap).1, ?_⟩
    have hcell := Sort.cell?_putRow (Value.int .i64) (Sort.ahead w q) g 0 l.toArray (r ++ List.replicate (l.length - r.length) (0 : Int)).toArray hH (by simpa using hlen) i (by rw [List.size_toArray, hlen]; omega)
    rw [hcell]
    congr 2
    rw [List.getD_eq_getElem?_getD, List.getElem?_eq_getElem hi, getElem!_pos _ i (by rw [List.size_toArray, hlen]; omega)]
    simp [List.getElem_append_left hi]
  · cases ha
    exact ⟨_, hheap⟩
end Go.Proofs.Ytaaepadhapfkoaa
