/-
  Quorum: the document's quorum in memory, its slots as the program's; at, Lose, Add.
-/
import Derived.Test.YtheafmjdncmpoaaQuoV
import Derived.Test.YtheafmjdncmpoaaPQuorumScriptx1
namespace Go.Proofs.Ytheafmjdncmpoaa
set_option linter.unusedSimpArgs false
set_option linter.unusedVariables false
open Go.RowKit Go.Proofs.YtheafmjdncmpoaaW.PrintWords Go.Proofs.YtheafmjdncmpoaaW.PrintMore

def byV (s : Qs) : Value := .int .i64 (s.y.getD 0)
def goneV (s : Qs) : Value := .bool (s.b == 1)
/-- slots that are as they may be -/
def Wf (S : List Qs) : Prop := ∀ i, i < S.length → ((S.getD i zQ).b = 0 ∨ (S.getD i zQ).b = 1) ∧ ∀ v, (S.getD i zQ).y = some v → 1 ≤ v
/-- the blocks of the document's quorum -/
structure RB where
  g : Nat
  s : Nat
  b : Nat
  o : Nat
  c : Nat
def RB.own (r : RB) (k : Nat) : Prop := k = r.g ∨ k = r.s ∨ k = r.b ∨ k = r.o
/-- the document's quorum of slots S at block r.g -/
structure RQ (w : World) (base : Nat) (r : RB) (S : List Qs) (need : Int) : Prop where
  hg : w.heap[r.g]? = some (.cells #[.slice (some ⟨r.s, 0, none⟩) S.length r.c, .int .i64 need, .slice (some ⟨r.b, 0, none⟩) S.length S.length, .slice (some ⟨r.o, 0, none⟩) S.length S.length] 114 (0, 0))
  hs : ∃ cS, w.heap[r.s]? = some (.cells cS 3 (0, 0)) ∧ ∀ i, i < S.length → cS[i]? = some (.int .i64 (S.getD i zQ).a)
  hb : w.heap[r.b]? = some (.cells (S.map byV).toArray 3 (0, 0))
  ho : w.heap[r.o]? = some (.cells (S.map goneV).toArray 4 (0, 0))
  ne : r.s ≠ r.b
  bg : base ≤ r.g
  bs : base ≤ r.s
  bb : base ≤ r.b
  bo : base ≤ r.o
  wf : Wf S
section
variable {w w' : World} {base : Nat} {r : RB} {S : List Qs} {need : Int}
theorem blk_lt' {w : World} {g : Nat} {o : Obj} (h : w.heap[g]? = some o) : g < w.heap.size := (Array.getElem?_eq_some_iff.1 h).1
theorem RQ.keep (h : RQ w base r S need) (hk : ∀ k, r.own k → w'.heap[k]? = w.heap[k]?) : RQ w' base r S need := by
  obtain ⟨cS, h1, h2⟩ := h.hs
  exact ⟨(hk _ (.inl rfl)).trans h.hg, ⟨cS, (hk _ (.inr (.inl rfl))).trans h1, h2⟩, (hk _ (.inr (.inr (.inl rfl)))).trans h.hb, (hk _ (.inr (.inr (.inr rfl)))).trans h.ho, h.ne, h.bg, h.bs, h.bb, h.bo, h.wf⟩
theorem RQ.lt (h : RQ w base r S need) : ∀ k, r.own k → k < w.heap.size := by
  rintro k (rfl | rfl | rfl | rfl)
  · exact blk_lt' h.hg
  · obtain ⟨cS, h1, _⟩ := h.hs
    exact blk_lt' h1
  · exact blk_lt' h.hb
  · exact blk_lt' h.ho
theorem RQ.below (h : RQ w base r S need) (hb : Below w.heap.size w w') : RQ w' base r S need := h.keep fun k hk => hb.block k (h.lt k hk)
theorem RQ.cells (h : RQ w base r S need) {i : Nat} (hi : i < S.length) :
    w.cell? ⟨r.s, i, none⟩ = some (.int .i64 (S.getD i zQ).a) ∧ w.cell? ⟨r.b, i, none⟩ = some (.int .i64 ((S.getD i zQ).y.getD 0)) ∧ w.cell? ⟨r.o, i, none⟩ = some (.bool ((S.getD i zQ).b == 1)) := by
  obtain ⟨cS, h1, h2⟩ := h.hs
  have hS : S[i]? = some (S.getD i zQ) := by rw [List.getElem?_eq_getElem hi, List.getD_eq_getElem?_getD, List.getElem?_eq_getElem hi]; rfl
  refine ⟨by rw [cell_of_row _ r.s i _ _ _ h1]; exact h2 i hi, ?_, ?_⟩
  · rw [cell_of_row _ r.b i _ _ _ h.hb, List.getElem?_toArray, List.getElem?_map, hS]; rfl
  · rw [cell_of_row _ r.o i _ _ _ h.ho, List.getElem?_toArray, List.getElem?_map, hS]; rfl
theorem RQ.fields (h : RQ w base r S need) : w.cell? ⟨r.g, 0, none⟩ = some (.slice (some ⟨r.s, 0, none⟩) S.length r.c) ∧ w.cell? ⟨r.g, 1, none⟩ = some (.int .i64 need) ∧ w.cell? ⟨r.g, 2, none⟩ = some (.slice (some ⟨r.b, 0, none⟩) S.length S.length) ∧ w.cell? ⟨r.g, 3, none⟩ = some (.slice (some ⟨r.o, 0, none⟩) S.length S.length) := by
  refine ⟨?_, ?_, ?_, ?_⟩ <;> (rw [cell_of_row _ r.g _ _ _ _ h.hg]; rfl)
theorem blk_ne {w : World} {a b : Nat} {x y : Array Value} {s t : TypeId} (h1 : w.heap[a]? = some (.cells x s (0, 0))) (h2 : w.heap[b]? = some (.cells y t (0, 0))) (hne : s ≠ t) : a ≠ b := by
  rintro rfl
  rw [h1] at h2
  injection h2 with h2
  injection h2 with _ h2
  exact hne h2
theorem Wf.set (h : Wf S) {i : Nat} {x : Qs} (hb : x.b = 0 ∨ x.b = 1) (hy : ∀ v, x.y = some v → 1 ≤ v) : Wf (S.set i x) := by
  intro j hj
  rw [List.length_set] at hj
  by_cases e : j = i
  · subst e
    rw [List.getD_eq_getElem?_getD, List.getElem?_set_self hj]
    exact ⟨hb, hy⟩
  · rw [List.getD_eq_getElem?_getD, List.getElem?_set_ne (by omega), ← List.getD_eq_getElem?_getD]
    exact h j hj
theorem map_set_same (f : Qs → Value) {i : Nat} {x : Qs} (hi : i < S.length) (hf : f x = f (S.getD i zQ)) : (S.set i x).map f = S.map f := by
  apply List.ext_getElem
  · simp
  · intro j h1 h2
    rw [List.getElem_map, List.getElem_map, List.getElem_set]
    split
    · rename_i e
      subst e
      rw [hf, List.getD_eq_getElem?_getD, List.getElem?_eq_getElem hi]; rfl
    · rfl
/-- a slot that is met -/
theorem RQ.setBy (h : RQ w base r S need) {i : Nat} (hi : i < S.length) {who : Int} (hw : 1 ≤ who) :
    RQ (w.setCell ⟨r.b, i, none⟩ (.int .i64 who)) base r (S.set i { S.getD i zQ with y := some who }) need := by
  obtain ⟨cS, h1, h2⟩ := h.hs
  have n1 := blk_ne h.hg h.hb (by decide)
  have n2 := blk_ne h.ho h.hb (by decide)
  refine ⟨?_, ⟨cS, ?_, fun j hj => ?_⟩, ?_, ?_, h.ne, h.bg, h.bs, h.bb, h.bo, h.wf.set (h.wf i hi).1 (fun v hv => by simp at hv; omega)⟩
  · rw [Below.heap_setCell w _ _ r.g n1, List.length_set]; exact h.hg
  · rw [Below.heap_setCell w _ _ r.s h.ne]; exact h1
  · rw [List.length_set] at hj
    rw [h2 j hj]
    by_cases e : j = i
    · subst e; rw [List.getD_eq_getElem?_getD (l := S.set j _), List.getElem?_set_self hj]; rfl
    · rw [List.getD_eq_getElem?_getD (l := S.set i _), List.getElem?_set_ne (by omega), ← List.getD_eq_getElem?_getD]
  · rw [heap_setCell_same _ _ _ _ _ _ h.hb, List.map_set]
    simp [byV]
  · rw [Below.heap_setCell w _ _ r.o n2, map_set_same (x := { S.getD i zQ with y := some who }) goneV hi rfl]; exact h.ho
/-- a slot that is given up -/
theorem RQ.setGone (h : RQ w base r S need) {i : Nat} (hi : i < S.length) :
    RQ (w.setCell ⟨r.o, i, none⟩ (.bool true)) base r (S.set i { S.getD i zQ with b := 1 }) need := by
  obtain ⟨cS, h1, h2⟩ := h.hs
  have n1 := blk_ne h.hg h.ho (by decide)
  have n2 := blk_ne h.hb h.ho (by decide)
  have n3 := blk_ne h1 h.ho (by decide)
  refine ⟨?_, ⟨cS, ?_, fun j hj => ?_⟩, ?_, ?_, h.ne, h.bg, h.bs, h.bb, h.bo, h.wf.set (.inr rfl) (h.wf i hi).2⟩
  · rw [Below.heap_setCell w _ _ r.g n1, List.length_set]; exact h.hg
  · rw [Below.heap_setCell w _ _ r.s n3]; exact h1
  · rw [List.length_set] at hj
    rw [h2 j hj]
    by_cases e : j = i
    · subst e; rw [List.getD_eq_getElem?_getD (l := S.set j _), List.getElem?_set_self hj]; rfl
    · rw [List.getD_eq_getElem?_getD (l := S.set i _), List.getElem?_set_ne (by omega), ← List.getD_eq_getElem?_getD]
  · rw [Below.heap_setCell w _ _ r.b n2, map_set_same (x := { S.getD i zQ with b := 1 }) byV hi rfl]; exact h.hb
  · rw [heap_setCell_same _ _ _ _ _ _ h.ho, List.map_set]
    simp [goneV]
end
/-- where a slot is, as the document's answer has it -/
def atI (S : List Qs) (n : Int) : Int := match slotN S n with
  | none => -1
  | some i => i
set_option maxHeartbeats 1600000 in
set_option maxRecDepth 100000 in
theorem at_any {w : World} {base : Nat} {r : RB} {S : List Qs} {need : Int} (h : RQ w base r S need) (hS : S.length ≤ 1000) (n : Int) :
    Calls Try.prog 72 #[.pointer (some ⟨r.g, 0, none⟩), .int .i64 n] w fun e w' => e = .returned (.int .i64 (atI S n)) ∧ w' = w := by
  obtain ⟨f0, f1, f2, f3⟩ := h.fields
  have HC := Aside0.mk (fun i (hi : i < S.length) => (h.cells hi).1)
  clear h f1 f2 f3
  obtain ⟨g, hg⟩ : ∃ g, r.g = g := ⟨_, rfl⟩
  obtain ⟨s, hs⟩ : ∃ s, r.s = s := ⟨_, rfl⟩
  obtain ⟨c, hc⟩ : ∃ c, r.c = c := ⟨_, rfl⟩
  rw [hg] at f0 ⊢
  rw [hs] at f0 HC
  rw [hc] at f0
  clear hg hs hc
  go_enter Try.func72, Try.ntmps72
  go_wp2
  go_loop [5] (fun i => ∃ k : Nat, k ≤ S.length ∧ i = .int .i64 k ∧ Aside0 (∀ j, j < k → ((S.getD j zQ).a == n) = false)) (fun i => S.length - (intOf i).toNat)
  case atStart => exact ⟨0, by omega, rfl, ⟨fun j hj => absurd hj (by omega)⟩⟩
  case round =>
    obtain ⟨k, hk, rfl, HP⟩ := hrel
    by_cases hgo : k < S.length
    · have q0 := HC.out k hgo
      obtain ⟨a, ha⟩ : ∃ a, (S.getD k zQ).a = a := ⟨_, rfl⟩
      have HA := Aside0.mk ha
      rw [ha] at q0
      clear ha
      by_cases he : a = n
      · subst he
        have hs : atI S a = k := by unfold atI; rw [show slotN S a = some k from firstN_some HP.out hgo (by rw [HA.out]; simp)]
        have HS := Aside0.mk hs
        clear hs
        go_wp2
        go_ret
        exact ⟨by rw [HS.out]; rfl, rfl⟩
      · have he' : (a == n) = false := by simpa using he
        go_wp2
        go_round
        case rel =>
          refine ⟨k + 1, by omega, by go_num, ⟨fun j hj => ?_⟩⟩
          by_cases e : j = k
          · subst e; rw [HA.out]; exact he'
          · exact HP.out j (by omega)
        case measure => simp [intOf]; omega
    · obtain rfl : k = S.length := by omega
      have HS : Aside0 (atI S n = -1) := ⟨by unfold atI; rw [show slotN S n = none from firstN_none HP.out]⟩
      go_wp2
      go_ret
      exact ⟨by rw [HS.out]; rfl, rfl⟩
end Go.Proofs.Ytheafmjdncmpoaa
