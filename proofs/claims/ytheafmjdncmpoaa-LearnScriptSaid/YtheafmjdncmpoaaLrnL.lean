/-
  Learn: what a learner is in memory; none, all, New.
-/
import Derived.Test.YtheafmjdncmpoaaLrnB
namespace Go.Proofs.Ytheafmjdncmpoaa
set_option linter.unusedSimpArgs false
set_option linter.unusedVariables false
open Go.RowKit Go.Proofs.YtheafmjdncmpoaaW.PrintWords Go.Proofs.YtheafmjdncmpoaaW.PrintMore

/-- what was heard of a node -/
structure Hd where
  n : Int
  d : Int
  x : List Int
/-- a learner: how many nodes, what was heard of each, a decision -/
structure Lr where
  nodes : Nat
  of : Nat → Hd
  dec : Bool
  data : List Int
def hd0 : Hd := ⟨0, 0, []⟩
/-- a learner at block b, with the blocks F of its own -/
def LAt (w : World) (base : Nat) (F : Nat → Prop) (b : Nat) (L : Lr) : Prop :=
  ∃ (cs : Array Value) (vs : Nat → Value) (vd : Value), F b ∧ base ≤ b ∧ w.heap[b]? = some (.cells cs 93 (0, 0)) ∧ cs.size = 198 ∧
    (∀ i, i ≤ 64 → cs[i * 3]? = some (.int .i64 (L.of i).n) ∧ cs[i * 3 + 1]? = some (.int .i64 (L.of i).d) ∧ cs[i * 3 + 2]? = some (vs i) ∧ kB.R 5 w base F (vs i) (L.of i).x) ∧
    cs[195]? = some (.int .i64 L.nodes) ∧ cs[196]? = some (.bool L.dec) ∧ cs[197]? = some vd ∧ kB.R 5 w base F vd L.data
section
variable {w w' : World} {base : Nat} {F F' : Nat → Prop} {b : Nat} {L : Lr}
theorem LAt.move (h : LAt w base F b L) (hm : ∀ k, F k → k < w.heap.size → w'.heap[k]? = w.heap[k]?) : LAt w' base F b L := by
  obtain ⟨cs, vs, vd, h1, h2, h3, h4, h5, h6, h7, h8, h9⟩ := h
  exact ⟨cs, vs, vd, h1, h2, (hm b h1 (Array.getElem?_eq_some_iff.1 h3).1).trans h3, h4, fun i hi => ⟨(h5 i hi).1, (h5 i hi).2.1, (h5 i hi).2.2.1, Kd.R_step (h5 i hi).2.2.2 hm⟩, h6, h7, h8, Kd.R_step h9 hm⟩
theorem LAt.below (h : LAt w base F b L) (hb : Below w.heap.size w w') : LAt w' base F b L := h.move fun k _ hk => hb.block k hk
theorem LAt.mono (h : LAt w base F b L) (hF : ∀ k, F k → F' k) : LAt w base F' b L := by
  obtain ⟨cs, vs, vd, h1, h2, h3, h4, h5, h6, h7, h8, h9⟩ := h
  exact ⟨cs, vs, vd, hF b h1, h2, h3, h4, fun i hi => ⟨(h5 i hi).1, (h5 i hi).2.1, (h5 i hi).2.2.1, Kd.R_mono (h5 i hi).2.2.2 hF⟩, h6, h7, h8, Kd.R_mono h9 hF⟩
theorem given_of_R {v : Value} {xs : List Int} (h : kB.R 5 w base F v xs) : ∃ A c, v = .slice A xs.length c ∧ Given w A c xs := by
  obtain ⟨A, c, e, hl, hC⟩ := Kd.R_reads h
  refine ⟨A, c, e, ⟨hC, hl⟩, fun hA => ?_⟩
  obtain ⟨h0, inner, ho, hr⟩ := h
  rcases ho.2 with ⟨e2, _⟩ | ⟨g, cap, cur, e2, _⟩
  · rw [e] at e2
    injection e2
  · rw [e] at e2
    injection e2 with e3
    rw [hA] at e3
    cases e3
theorem LAt.heard (h : LAt w base F b L) {i : Nat} (hi : i ≤ 64) : ∃ A c, HcAt w b (i * 3) ⟨(L.of i).n, (L.of i).d, A, (L.of i).x.length, c⟩ ∧ Given w A c (L.of i).x := by
  obtain ⟨cs, vs, vd, h1, h2, h3, h4, h5, h6, h7, h8, h9⟩ := h
  obtain ⟨k1, k2, k3, k4⟩ := h5 i hi
  obtain ⟨A, c, e, hg⟩ := given_of_R k4
  rw [e] at k3
  exact ⟨A, c, ⟨by rw [cell_of_row _ b _ _ _ _ h3]; exact k1, by rw [cell_of_row _ b _ _ _ _ h3]; exact k2, by rw [cell_of_row _ b _ _ _ _ h3]; exact k3⟩, hg⟩
theorem LAt.tail (h : LAt w base F b L) : ∃ A c, w.cell? ⟨b, 195, none⟩ = some (.int .i64 L.nodes) ∧ w.cell? ⟨b, 196, none⟩ = some (.bool L.dec) ∧ w.cell? ⟨b, 197, none⟩ = some (.slice A L.data.length c) ∧ Given w A c L.data := by
  obtain ⟨cs, vs, vd, h1, h2, h3, h4, h5, h6, h7, h8, h9⟩ := h
  obtain ⟨A, c, e, hg⟩ := given_of_R h9
  rw [e] at h8
  exact ⟨A, c, by rw [cell_of_row _ b _ _ _ _ h3]; exact h6, by rw [cell_of_row _ b _ _ _ _ h3]; exact h7, by rw [cell_of_row _ b _ _ _ _ h3]; exact h8, hg⟩
end
theorem none80_nil (w : World) : Calls Try.prog 80 #[.pointer none] w fun e w' => e = .returned (.bool true) ∧ w' = w := by
  go_enter Try.func80, Try.ntmps80
  go_wp2
  go_ret
  exact ⟨rfl, rfl⟩
theorem none80_at (b : Nat) (n : Int) (w : World) (h : w.cell? ⟨b, 195, none⟩ = some (.int .i64 n)) : Calls Try.prog 80 #[.pointer (some ⟨b, 0, none⟩)] w fun e w' => e = .returned (.bool (n == 0)) ∧ w' = w := by
  go_enter Try.func80, Try.ntmps80
  go_wp2
  go_ret
  exact ⟨rfl, rfl⟩
theorem all_any (b n : Nat) (w : World) (hn : n ≤ 64) (h : w.cell? ⟨b, 195, none⟩ = some (.int .i64 n)) : Calls Try.prog 82 #[.pointer (some ⟨b, 0, none⟩)] w fun e w' => e = .returned (.slice (some ⟨b, 3, none⟩) n 64) ∧ Below w.heap.size w w' := by
  have e1 : IntKind.i64.wrap ((n : Int) + 1) = (n : Int) + 1 := by rw [IntKind.wrap_i64]; omega
  have e2 : (1 : Int) ≤ (n : Int) + 1 := by omega
  have e3 : (n : Int) + 1 ≤ 65 := by omega
  have e4 : ((n : Int) + 1).toNat = n + 1 := by omega
  have e5 : (0 : Int) ≤ (n : Int) + 1 := by omega
  go_enter Try.func82, Try.ntmps82
  go_wp2_with fail
  go_quiet (fail)
  go_wp2
  go_ret
  exact ⟨by simp, pw_below_drewN (Below.refl _ _) _⟩
theorem zero93 : Try.zeroCells93.toList = (List.replicate 65 [Value.int .i64 0, .int .i64 0, .slice none 0 0]).flatten ++ [.int .i64 0, .bool false, .slice none 0 0] := by kernel_rfl
theorem flat_get {α : Type} (a b c : α) (t : List α) : ∀ (n i : Nat), i < n → ((List.replicate n [a, b, c]).flatten ++ t)[i * 3]? = some a ∧ ((List.replicate n [a, b, c]).flatten ++ t)[i * 3 + 1]? = some b ∧ ((List.replicate n [a, b, c]).flatten ++ t)[i * 3 + 2]? = some c
  | n + 1, 0, _ => by simp [List.replicate_succ]
  | n + 1, i + 1, h => by
    have := flat_get a b c t n i (by omega)
    rw [List.replicate_succ, List.flatten_cons, List.append_assoc, show (i + 1) * 3 = i * 3 + 3 by omega, show i * 3 + 3 + 1 = (i * 3 + 1) + 3 by omega, show i * 3 + 3 + 2 = (i * 3 + 2) + 3 by omega]
    simpa using this
theorem flat_tail {α : Type} (a b c : α) (t : List α) (n j : Nat) : ((List.replicate n [a, b, c]).flatten ++ t)[n * 3 + j]? = t[j]? := by
  have hl : ((List.replicate n [a, b, c]).flatten).length = n * 3 := by
    induction n with
    | zero => rfl
    | succ n ih => rw [List.replicate_succ, List.flatten_cons, List.length_append, ih]; simp; omega
  rw [List.getElem?_append_right (by omega), hl]
  congr 1
  omega
theorem lat_new (n : Nat) (w : World) : LAt (w.alloc (.cells (Try.zeroCells93.setIfInBounds 195 (.int .i64 n)) 93)) w.heap.size (fun k => w.heap.size ≤ k) w.heap.size ⟨n, fun _ => hd0, false, []⟩ := by
  have hsz : Try.zeroCells93.size = 198 := by kernel_rfl
  have hz : ∀ j, Try.zeroCells93[j]? = ((List.replicate 65 [Value.int .i64 0, .int .i64 0, .slice none 0 0]).flatten ++ [.int .i64 0, .bool false, .slice none 0 0])[j]? := fun j => by rw [← zero93, Array.getElem?_toList]
  have hs : ∀ j, j ≠ 195 → (Try.zeroCells93.setIfInBounds 195 (Value.int .i64 n))[j]? = Try.zeroCells93[j]? := fun j hj => by rw [Array.getElem?_setIfInBounds_ne (by omega)]
  refine ⟨_, fun _ => .slice none 0 0, .slice none 0 0, Nat.le_refl _, Nat.le_refl _, heap_alloc_new _ _, by rw [Array.size_setIfInBounds, hsz], fun i hi => ?_, ?_, ?_, ?_, Kd.R_nil _ _ _ _ _⟩
  · obtain ⟨k1, k2, k3⟩ := flat_get (Value.int .i64 0) (.int .i64 0) (.slice none 0 0) [.int .i64 0, .bool false, .slice none 0 0] 65 i (by omega)
    exact ⟨by rw [hs _ (by omega), hz]; exact k1, by rw [hs _ (by omega), hz]; exact k2, by rw [hs _ (by omega), hz]; exact k3, Kd.R_nil _ _ _ _ _⟩
  · rw [Array.getElem?_setIfInBounds_self_of_lt (by rw [hsz]; omega)]
  · rw [hs _ (by omega), hz, show 196 = 65 * 3 + 1 from rfl, flat_tail]; rfl
  · rw [hs _ (by omega), hz, show 197 = 65 * 3 + 2 from rfl, flat_tail]; rfl
set_option maxHeartbeats 1600000 in
set_option maxRecDepth 100000 in
theorem lnew_good (n : Nat) (set : Int) (w : World) (h1 : 1 ≤ n ∧ n ≤ 64) (h2 : 1 ≤ set ∧ set ≤ 2147483647) :
    Calls Try.prog 50 #[.int .i64 n, .int .i64 set] w fun e w' => ∃ b, e = .returned (.tuple #[.pointer (some ⟨b, 0, none⟩), .int .i64 0]) ∧ Below w.heap.size w w' ∧ LAt w' w.heap.size (fun k => w.heap.size ≤ k) b ⟨n, fun _ => hd0, false, []⟩ := by
  obtain ⟨h1, h1'⟩ := h1
  obtain ⟨h2, h2'⟩ := h2
  go_enter Try.func50, Try.ntmps50
  go_wp2
  refine bodyPost_ret (v := .tuple #[.pointer (some ⟨w.heap.size, 0, none⟩), .int .i64 0]) (by simp [results, Try.results50, go_sem]) rfl ⟨w.heap.size, rfl, (Below.refl _ _).alloc (Nat.le_refl _) _, lat_new n w⟩
theorem lnew_bad (n : Int) (set : Int) (w : World) (h : n < 1 ∨ 64 < n ∨ set < 1 ∨ 2147483647 < set) :
    Calls Try.prog 50 #[.int .i64 n, .int .i64 set] w fun e w' => e = .returned (.tuple #[.pointer none, .int .i64 2]) ∧ Below w.heap.size w w' := by
  have fin : ∀ a : Act, True := fun _ => trivial
  by_cases h1 : n < 1
  · clear h fin
    go_enter Try.func50, Try.ntmps50
    go_wp2
    exact bodyPost_ret (v := .tuple #[.pointer none, .int .i64 2]) (by simp [results, Try.results50, go_sem]) rfl ⟨rfl, Below.refl _ _⟩
  · by_cases h2 : 64 < n
    · have h1' : 1 ≤ n := by omega
      clear h fin h1
      go_enter Try.func50, Try.ntmps50
      go_wp2
      exact bodyPost_ret (v := .tuple #[.pointer none, .int .i64 2]) (by simp [results, Try.results50, go_sem]) rfl ⟨rfl, Below.refl _ _⟩
    · by_cases h3 : set < 1
      · have h1' : 1 ≤ n := by omega
        have h2' : n ≤ 64 := by omega
        clear h fin h1 h2
        go_enter Try.func50, Try.ntmps50
        go_wp2
        exact bodyPost_ret (v := .tuple #[.pointer none, .int .i64 2]) (by simp [results, Try.results50, go_sem]) rfl ⟨rfl, Below.refl _ _⟩
      · have h1' : 1 ≤ n := by omega
        have h2' : n ≤ 64 := by omega
        have h3' : 1 ≤ set := by omega
        have h4 : 2147483647 < set := by omega
        clear h fin h1 h2 h3
        go_enter Try.func50, Try.ntmps50
        go_wp2
        exact bodyPost_ret (v := .tuple #[.pointer none, .int .i64 2]) (by simp [results, Try.results50, go_sem]) rfl ⟨rfl, Below.refl _ _⟩
end Go.Proofs.Ytheafmjdncmpoaa
