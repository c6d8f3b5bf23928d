/-
  Quorum: find by a node and by who meets; Lose.
-/
import Derived.Test.YtheafmjdncmpoaaQuoO
namespace Go.Proofs.Ytheafmjdncmpoaa
set_option linter.unusedSimpArgs false
set_option linter.unusedVariables false
open Go.RowKit Go.Proofs.YtheafmjdncmpoaaW.PrintWords Go.Proofs.YtheafmjdncmpoaaW.PrintMore

/-- the slot of a node -/
def slotN (S : List Qs) (m : Int) : Option Nat := firstN (fun i => (S.getD i zQ).a == m) S.length
/-- the slot that somebody meets -/
def byN (S : List Qs) (m : Int) : Option Nat := firstN (fun i => (S.getD i zQ).y == some m) S.length
theorem of_box (n : Int) (w : World) : Calls Try.prog 68 #[.int .i64 n] w fun e w' => ∃ c, e = .returned (.func (.func 96) #[] #[.pointer (some ⟨c, 0, none⟩)]) ∧ Below w.heap.size w w' ∧ w'.cell? ⟨c, 0, none⟩ = some (.int .i64 n) :=
  (of_any n w).mono fun e u ⟨h1, h2⟩ => ⟨_, h1, by rw [h2]; exact (Below.refl _ _).alloc (Nat.le_refl _) _, by rw [h2]; exact cell_of_row _ _ 0 _ _ _ (heap_alloc_new _ _)⟩
theorem by_box (n : Int) (w : World) : Calls Try.prog 73 #[.int .i64 n] w fun e w' => ∃ c, e = .returned (.func (.func 97) #[] #[.pointer (some ⟨c, 0, none⟩)]) ∧ Below w.heap.size w w' ∧ w'.cell? ⟨c, 0, none⟩ = some (.int .i64 n) :=
  (by_any n w).mono fun e u ⟨h1, h2⟩ => ⟨_, h1, by rw [h2]; exact (Below.refl _ _).alloc (Nat.le_refl _) _, by rw [h2]; exact cell_of_row _ _ 0 _ _ _ (heap_alloc_new _ _)⟩
theorem find_of (g cap c : Nat) (S : List Qs) (m : Int) (w : World) (hS : S.length ≤ 1000) (hs : ∀ i, i < S.length → SlotAt w ⟨g, i * 3, none⟩ (S.getD i zQ)) (hc : w.cell? ⟨c, 0, none⟩ = some (.int .i64 m)) :
    Calls Try.prog 67 #[.slice (some ⟨g, 0, none⟩) S.length cap, .func (.func 96) #[] #[.pointer (some ⟨c, 0, none⟩)]] w fun e w' => e = .returned (.pointer ((slotN S m).map fun i => ⟨g, i * 3, none⟩)) ∧ Below w.heap.size w w' :=
  find_row 96 _ _ g S.length cap _ w (by omega) Try.func96 (by kernel_rfl) rfl fun w' hb i hi => of1_any g (i * 3) c _ m w' ((hs i hi).below hb).1 (pw_cell_below hb hc)
theorem find_by (g cap c : Nat) (S : List Qs) (m : Int) (w : World) (hS : S.length ≤ 1000) (hs : ∀ i, i < S.length → SlotAt w ⟨g, i * 3, none⟩ (S.getD i zQ)) (hc : w.cell? ⟨c, 0, none⟩ = some (.int .i64 m)) :
    Calls Try.prog 67 #[.slice (some ⟨g, 0, none⟩) S.length cap, .func (.func 97) #[] #[.pointer (some ⟨c, 0, none⟩)]] w fun e w' => e = .returned (.pointer ((byN S m).map fun i => ⟨g, i * 3, none⟩)) ∧ Below w.heap.size w w' :=
  find_row 97 _ _ g S.length cap _ w (by omega) Try.func97 (by kernel_rfl) rfl fun w' hb i hi => by
    obtain ⟨_, _, h3⟩ := (hs i hi).below hb
    rcases h3 with ⟨h3, h4⟩ | ⟨g', v, h3, h4, h5⟩
    · rw [h3]; exact by1_none g (i * 3) c w' h4
    · rw [h3]; exact by1_some g (i * 3) c g' v m w' h4 h5 (pw_cell_below hb hc)
theorem firstN_lt {P : Nat → Bool} {n k : Nat} (h : firstN P n = some k) : k < n ∧ P k = true := by
  unfold firstN at h
  have h1 := List.find?_some h
  have h2 := List.mem_of_find?_eq_some h
  exact ⟨List.mem_range.1 h2, h1⟩
/-- the state, its row told -/
def QV (w : World) (base : Nat) (F : Nat → Prop) (b g c : Nat) (S : List Qs) (need : Int) : Prop :=
  F b ∧ base ≤ b ∧ w.heap[b]? = some (.cells #[.slice (some ⟨g, 0, none⟩) S.length c, .int .i64 need] 59 (0, 0)) ∧ kQ.R 110 w base F (.slice (some ⟨g, 0, none⟩) S.length c) S
theorem QAt.row {w : World} {base : Nat} {F : Nat → Prop} {b : Nat} {S : List Qs} {need : Int} (h : QAt w base F b S need) (hp : 0 < S.length) : ∃ g c, QV w base F b g c S need := by
  obtain ⟨v, h1, h2, h3, h4⟩ := h
  have h4' := h4
  obtain ⟨h0, inner, ho, hr⟩ := h4
  rcases ho.2 with ⟨rfl, hz⟩ | ⟨g, cap, cur, rfl, hg, _, _, hm, _⟩
  · omega
  · exact ⟨g, cap, h1, h2, h3, h4'⟩
theorem QV.at {w : World} {base : Nat} {F : Nat → Prop} {b g c : Nat} {S : List Qs} {need : Int} (h : QV w base F b g c S need) : QAt w base F b S need := ⟨_, h⟩
theorem QV.below {w w1 : World} {base : Nat} {F : Nat → Prop} {b g c : Nat} {S : List Qs} {need : Int} (h : QV w base F b g c S need) (hb : Below w.heap.size w w1) : QV w1 base F b g c S need := by
  obtain ⟨h1, h2, h3, h4⟩ := h
  exact ⟨h1, h2, (hb.block b (Array.getElem?_eq_some_iff.1 h3).1).trans h3, Kd.R_below h4 hb⟩
theorem QV.slots {w : World} {base : Nat} {F : Nat → Prop} {b g c : Nat} {S : List Qs} {need : Int} (h : QV w base F b g c S need) : ∀ i, i < S.length → SlotAt w ⟨g, i * 3, none⟩ (S.getD i zQ) := by
  intro i hi
  obtain ⟨ad, e, hs⟩ := slot_at (Kd.R_reads' h.2.2.2).2.2 i hi
  obtain rfl := Option.some.inj e
  rwa [add_plain] at hs
theorem QV.row_ne {w : World} {base : Nat} {F : Nat → Prop} {b g c : Nat} {S : List Qs} {need : Int} (h : QV w base F b g c S need) : b ≠ g ∧ F g ∧ base ≤ g ∧ ∃ cells, w.heap[g]? = some (.cells cells 110 (0, 0)) := by
  obtain ⟨h1, h2, h3, h4⟩ := h
  obtain ⟨h0, inner, ho, hr⟩ := h4
  obtain ⟨cells, hc⟩ := own_typed ho g rfl
  refine ⟨?_, h0 g rfl, own_base ho g rfl, cells, hc⟩
  rintro rfl
  rw [h3] at hc
  simp at hc
/-- the blocks of F alone have changed -/
structure Moved (F : Nat → Prop) (w w' : World) : Prop where
  os : w'.os = w.os
  tape : w'.tape = w.tape
  output : w'.output = w.output
  size : w.heap.size ≤ w'.heap.size
  block : ∀ k, k < w.heap.size → ¬ F k → w'.heap[k]? = w.heap[k]?
theorem Moved.of_below {F : Nat → Prop} {w w' : World} (h : Below w.heap.size w w') : Moved F w w' := ⟨h.os, h.tape, h.output, h.size, fun k hk _ => h.block k hk⟩
theorem Moved.set {F : Nat → Prop} {w w' : World} (h : Moved F w w') (p : Addr) (hp : F p.block) (v : Value) : Moved F w (w'.setCell p v) := by
  refine ⟨h.os, h.tape, h.output, by simpa using h.size, fun k hk hF => ?_⟩
  rw [Below.heap_setCell w' p v k (fun e => hF (e ▸ hp))]
  exact h.block k hk hF
theorem Moved.trans {F : Nat → Prop} {w w1 w2 : World} (h : Moved F w w1) (k : Moved F w1 w2) : Moved F w w2 :=
  ⟨k.os.trans h.os, k.tape.trans h.tape, k.output.trans h.output, Nat.le_trans h.size k.size, fun i hi hF => (k.block i (Nat.lt_of_lt_of_le hi h.size) hF).trans (h.block i hi hF)⟩
theorem Moved.below {F : Nat → Prop} {w w' : World} {base : Nat} (h : Moved F w w') (hF : ∀ k, F k → base ≤ k) (hb : base ≤ w.heap.size) : Below base w w' :=
  ⟨h.os, h.tape, h.output, h.size, fun k hk => h.block k (Nat.lt_of_lt_of_le hk hb) (fun f => absurd (hF k f) (by omega))⟩
/-- a slot that is given up -/
theorem QV.lose {w : World} {base : Nat} {F : Nat → Prop} {b g c : Nat} {S : List Qs} {need : Int} (h : QV w base F b g c S need) (i : Nat) (hi : i < S.length) :
    QV (w.setCell ⟨g, i * 3 + 1, none⟩ (.int .i64 1)) base F b g c (S.set i { S.getD i zQ with b := 1 }) need := by
  obtain ⟨hne, hFg, hbg, _⟩ := h.row_ne
  obtain ⟨h1, h2, h3, h4⟩ := h
  obtain ⟨cs, hcl, hM, hcc⟩ := Go.Proofs.YtheafmjdncmpoaaW.PrintMore.Kd.R_get h4 zQ (i : Int) (by omega) (by omega)
  rw [Int.toNat_natCast] at hM hcc
  have hcc' : ∀ j u, cs[j]? = some u → w.cell? ⟨g, (i : Int).toNat * kQ.sz + j, none⟩ = some u := by
    intro j u hj
    have := hcc j u hj
    rw [add_plain] at this
    rwa [Int.toNat_natCast]
  have hM' : kQ.M w base (fun k => F k ∧ k ≠ g) { S.getD i zQ with b := 1 } (cs.take 1 ++ [.int .i64 1] ++ cs.drop (1 + 1)) := by
    obtain ⟨c0, c1, rfl, ⟨d0, d1, rfl, e0, e1⟩, e2⟩ := hM
    obtain rfl : d0 = [.int .i64 (S.getD i zQ).a] := e0
    obtain rfl : d1 = [.int .i64 (S.getD i zQ).b] := e1
    refine ⟨[.int .i64 (S.getD i zQ).a, .int .i64 1], c1, rfl, ⟨[.int .i64 (S.getD i zQ).a], [.int .i64 1], rfl, rfl, rfl⟩, ?_⟩
    exact kBox.M_mono (fun k hk => ⟨hk.1, fun e => hk.2 (by rw [e]; rfl)⟩) e2
  obtain ⟨hrow, hgr⟩ := Kd.R_seg h4 (i : Int) (by omega) (by omega) hcl hcc' (by decide) hM' (fun k hk => hk)
  rw [Int.toNat_natCast] at hrow
  have hset : w.setCells g (i * kQ.sz + 1) [.int .i64 1] = w.setCell ⟨g, i * 3 + 1, none⟩ (.int .i64 1) := rfl
  rw [hset] at hrow
  refine ⟨h1, h2, ?_, ?_⟩
  · rw [Below.heap_setCell w _ _ b hne, h3, List.length_set]
  · rw [List.length_set]; exact hrow
end Go.Proofs.Ytheafmjdncmpoaa
