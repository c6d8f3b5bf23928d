/-
  Quorum: the document's Open, Nodes, Met, Lost answer as the program's.
-/
import Derived.Test.YtheafmjdncmpoaaQuoD
import Derived.Test.YtheafmjdncmpoaaQuoU
import Derived.Deep.RegionWith
namespace Go.Proofs.Ytheafmjdncmpoaa
set_option linter.unusedSimpArgs false
set_option linter.unusedVariables false
open Go.RowKit Go.Proofs.YtheafmjdncmpoaaW.PrintWords Go.Proofs.YtheafmjdncmpoaaW.PrintMore

/-- a row of ints told -/
def RTold (w : World) (xs : List Int) (e : Ending) (w' : World) : Prop := ∃ A c, e = .returned (.slice A xs.length c) ∧ Below w.heap.size w w' ∧ Kd.C kI w' A xs.length xs ∧ xs.length ≤ c
set_option maxHeartbeats 3200000 in
set_option maxRecDepth 100000 in
theorem rnodes_any {w : World} {base : Nat} {r : RB} {S : List Qs} {need : Int} (h : RQ w base r S need) (hS : S.length ≤ 1000) :
    Calls Try.prog 75 #[.pointer (some ⟨r.g, 0, none⟩)] w (RTold w (nodesL S S.length)) := by
  have HR := Aside0.mk h
  obtain ⟨g, hg⟩ : ∃ g, r.g = g := ⟨_, rfl⟩
  obtain ⟨b, hb⟩ : ∃ b, r.b = b := ⟨_, rfl⟩
  have HG := Aside0.mk hg
  have HBB := Aside0.mk hb
  rw [hg]
  clear hg hb h
  go_enter Try.func75, Try.ntmps75
  go_wp2
  go_loopw [3, 4] (fun o i wr => ∃ k : Nat, k ≤ S.length ∧ i = .int .i64 k ∧ Aside0 (kI.R 3 wr w.heap.size (fun _ => True) o (nodesL S k)) ∧ Aside0 (Below w.heap.size w wr)) (fun _ i _ => S.length - (intOf i).toNat)
  case atStart => exact ⟨0, by omega, rfl, ⟨Kd.R_nil _ _ _ _ _⟩, ⟨Below.refl _ _⟩⟩
  case round =>
    obtain ⟨k, hk, rfl, HO, HB⟩ := hrel
    have hq := HR.out.below HB.out
    obtain ⟨_, _, f2, _⟩ := hq.fields
    rw [HG.out, HBB.out] at f2
    by_cases hgo : k < S.length
    · obtain ⟨_, q0, _⟩ := hq.cells hgo
      rw [HBB.out] at q0
      have hwk := (hq.wf k hgo).2
      clear hq
      have hlen := nodesL_len S k
      have HE : Aside0 (nodesL S (k + 1) = nodesL S k ++ (S.getD k zQ).y.toList) := ⟨rfl⟩
      obtain ⟨y, hy⟩ : ∃ y, (S.getD k zQ).y = y := ⟨_, rfl⟩
      rw [hy] at q0 hwk HE
      clear hy
      obtain ⟨xs, exs⟩ : ∃ xs, nodesL S k = xs := ⟨_, rfl⟩
      rw [exs] at HO HE hlen
      clear exs
      have LM : Aside0 (xs.length ≤ 1000) := ⟨by omega⟩
      clear hlen
      cases y with
      | some v =>
        have hv := hwk v rfl
        clear hwk
        simp only [Option.getD_some, Option.toList_some] at q0 HE
        go_wp2_with ((with_reducible refine gate_builtin (b := .append) (xs := #[.tmp 22, .tmp 30]) rfl ?_); at_builtin; refine Kd.R_append kI (w0 := w) w.heap.size rfl (.tmp 22) (.tmp 30) 39 3 (.int .i64 0) 8 rfl Try.underlying39 info3 rfl (by decide) (by omega) u3 xs v [.int .i64 v] (fun _ => True) (fun _ => False) rfl (by simp [Act.eval]) ?aP (fun _ hk => hk.elim) ?aF ?aO ?aB ?aS ?aL ?_; (case aP => rfl); (case aF => exact fun _ _ => trivial); (case aO => exact HO.out); (case aB => exact HB.out); (case aS => exact HB.out.size); (case aL => have := LM.out; omega); intro v1 w1 ho hb hg hat; have HO1 := Aside0.mk ho; have HB1 := Aside0.mk hb; clear ho hb hg hat)
        go_roundw
        case rel => exact ⟨k + 1, by omega, by go_num, by rw [HE.out]; exact HO1, HB1⟩
        case measure => simp [intOf]; omega
      | none =>
        simp only [Option.getD_none, Option.toList_none, List.append_nil] at q0 HE
        clear hwk
        go_wp2
        go_roundw
        case rel => exact ⟨k + 1, by omega, by go_num, by rw [HE.out]; exact HO, HB⟩
        case measure => simp [intOf]; omega
    · obtain rfl : k = S.length := by omega
      clear hq
      obtain ⟨A, c, e1, e2, e3⟩ := Kd.R_reads HO.out
      subst e1
      have E2 := Aside0.mk e2
      have E3 := Aside0.mk e3
      clear e2 e3
      go_wp2
      go_ret
      exact ⟨A, c, rfl, HB.out, E3.out, E2.out⟩
set_option maxHeartbeats 3200000 in
set_option maxRecDepth 100000 in
theorem ropen_any {w : World} {base : Nat} {r : RB} {S : List Qs} {need : Int} (h : RQ w base r S need) (hS : S.length ≤ 1000) :
    Calls Try.prog 74 #[.pointer (some ⟨r.g, 0, none⟩)] w (RTold w (openL S S.length)) := by
  have HR := Aside0.mk h
  obtain ⟨g, hg⟩ : ∃ g, r.g = g := ⟨_, rfl⟩
  obtain ⟨b, hb⟩ : ∃ b, r.b = b := ⟨_, rfl⟩
  obtain ⟨s, hs⟩ : ∃ s, r.s = s := ⟨_, rfl⟩
  obtain ⟨o, ho⟩ : ∃ o, r.o = o := ⟨_, rfl⟩
  obtain ⟨c, hc⟩ : ∃ c, r.c = c := ⟨_, rfl⟩
  have HG := Aside0.mk hg
  have HBB := Aside0.mk hb
  have HSS := Aside0.mk hs
  have HOO := Aside0.mk ho
  have HCC := Aside0.mk hc
  rw [hg]
  clear hg hb hs ho hc h
  go_enter Try.func74, Try.ntmps74
  go_wp2
  go_loopw [3, 4] (fun o i wr => ∃ k : Nat, k ≤ S.length ∧ i = .int .i64 k ∧ Aside0 (kI.R 3 wr w.heap.size (fun _ => True) o (openL S k)) ∧ Aside0 (Below w.heap.size w wr)) (fun _ i _ => S.length - (intOf i).toNat)
  case atStart => exact ⟨0, by omega, rfl, ⟨Kd.R_nil _ _ _ _ _⟩, ⟨Below.refl _ _⟩⟩
  case round =>
    obtain ⟨k, hk, rfl, HO, HB⟩ := hrel
    have hq := HR.out.below HB.out
    obtain ⟨f0, _, f2, f3⟩ := hq.fields
    rw [HG.out, HBB.out] at f2
    rw [HG.out, HSS.out, HCC.out] at f0
    rw [HG.out, HOO.out] at f3
    by_cases hgo : k < S.length
    · obtain ⟨q0, q1, q2⟩ := hq.cells hgo
      rw [HSS.out] at q0
      rw [HBB.out] at q1
      rw [HOO.out] at q2
      have hwk := hq.wf k hgo
      clear hq
      have hlen := openL_len S k
      have HE : Aside0 (openL S (k + 1) = openL S k ++ (if isOpen (S.getD k zQ) then [(S.getD k zQ).a] else [])) := ⟨rfl⟩
      obtain ⟨⟨sa, sb, y⟩, hy⟩ : ∃ y, S.getD k zQ = y := ⟨_, rfl⟩
      rw [hy] at q0 q1 q2 hwk HE
      clear hy
      simp only at q0 q1 q2 hwk HE
      obtain ⟨xs, exs⟩ : ∃ xs, openL S k = xs := ⟨_, rfl⟩
      rw [exs] at HO HE hlen
      clear exs
      have LM : Aside0 (xs.length ≤ 1000) := ⟨by omega⟩
      clear hlen
      cases y with
      | some v =>
        have hv := hwk.2 v rfl
        have hv' : (v == 0) = false := by simp; omega
        clear hwk
        rw [show isOpen ⟨sa, sb, some v⟩ = false by simp [isOpen]] at HE
        simp only [Option.getD_some, Bool.false_eq_true, if_false, List.append_nil] at q1 HE
        go_wp2
        go_roundw
        case rel => exact ⟨k + 1, by omega, by go_num, by rw [HE.out]; exact HO, HB⟩
        case measure => simp [intOf]; omega
      | none =>
        simp only [Option.getD_none] at q1
        rcases hwk.1 with rfl | rfl
        · rw [show isOpen ⟨sa, 0, none⟩ = true from rfl, if_pos rfl] at HE
          rw [show ((0 : Int) == 1) = false from rfl] at q2
          clear hwk
          go_wp2_with ((with_reducible refine gate_builtin (b := .append) (xs := #[.tmp 32, .tmp 40]) rfl ?_); at_builtin; refine Kd.R_append kI (w0 := w) w.heap.size rfl (.tmp 32) (.tmp 40) 39 3 (.int .i64 0) 8 rfl Try.underlying39 info3 rfl (by decide) (by omega) u3 xs sa [.int .i64 sa] (fun _ => True) (fun _ => False) rfl (by simp [Act.eval]) ?aP (fun _ hk => hk.elim) ?aF ?aO ?aB ?aS ?aL ?_; (case aP => rfl); (case aF => exact fun _ _ => trivial); (case aO => exact HO.out); (case aB => exact HB.out); (case aS => exact HB.out.size); (case aL => have := LM.out; omega); intro v1 w1 ho hb hg hat; have HO1 := Aside0.mk ho; have HB1 := Aside0.mk hb; clear ho hb hg hat)
          go_roundw
          case rel => exact ⟨k + 1, by omega, by go_num, by rw [HE.out]; exact HO1, HB1⟩
          case measure => simp [intOf]; omega
        · rw [show isOpen ⟨sa, 1, none⟩ = false from rfl] at HE
          rw [show ((1 : Int) == 1) = true from rfl] at q2
          simp only [Bool.false_eq_true, if_false, List.append_nil] at HE
          clear hwk
          go_wp2
          go_roundw
          case rel => exact ⟨k + 1, by omega, by go_num, by rw [HE.out]; exact HO, HB⟩
          case measure => simp [intOf]; omega
    · obtain rfl : k = S.length := by omega
      clear hq
      obtain ⟨A, c', e1, e2, e3⟩ := Kd.R_reads HO.out
      subst e1
      have E2 := Aside0.mk e2
      have E3 := Aside0.mk e3
      clear e2 e3
      go_wp2
      go_ret
      exact ⟨A, c', rfl, HB.out, E3.out, E2.out⟩
theorem m1_below {w w' : World} {b : Nat} {v : Value} (h : Below w.heap.size w w' ∧ w'.cell? ⟨b, 1, none⟩ = some v) : Below w.heap.size w w' := h.1
theorem m1_next {w w' u : World} {b : Nat} {v : Value} (h : Below w.heap.size w w' ∧ w'.cell? ⟨b, 1, none⟩ = some v) (hb : Below w'.heap.size w' u) : Below w.heap.size w u ∧ u.cell? ⟨b, 1, none⟩ = some v :=
  ⟨below_step h.1 hb, pw_cell_below hb h.2⟩
set_option maxHeartbeats 1600000 in
set_option maxRecDepth 100000 in
theorem rmet_any {w : World} {base : Nat} {r : RB} {S : List Qs} {need : Int} (h : RQ w base r S need) (hS : S.length ≤ 1000) :
    Calls Try.prog 76 #[.pointer (some ⟨r.g, 0, none⟩)] w fun e w' => e = .returned (.bool (decide (need ≤ (metN S : Int)))) ∧ Below w.heap.size w w' := by
  obtain ⟨_, f1, _, _⟩ := h.fields
  have HN := Aside0.mk (fun u (hb : Below w.heap.size w u) => rnodes_any (h.below hb) hS)
  have hl : (nodesL S S.length).length = metN S := nodesL_cnt S S.length
  rw [← hl]
  have hle := nodesL_len S S.length
  obtain ⟨xs, hxs⟩ : ∃ xs, nodesL S S.length = xs := ⟨_, rfl⟩
  rw [hxs] at HN hle ⊢
  obtain ⟨g, hg⟩ : ∃ g, r.g = g := ⟨_, rfl⟩
  rw [hg] at f1 HN ⊢
  clear hg hxs hl h
  go_enter Try.func76, Try.ntmps76
  go_wp2_with fail
  go_region_held3 (fun w' => Below w.heap.size w w' ∧ w'.cell? ⟨g, 1, none⟩ = some (.int .i64 need))
    (first | exact ⟨below_drew (Below.refl _ _), by simpa using f1⟩ | assumption)
    (first | (go_at_call 75; refine (HN.out _ (m1_below ‹_›)).mono ?_; rintro e u ⟨A, c, rfl, hb, _⟩; have hk := m1_next ‹_› hb; clear hb))
  go_wp2
  go_ret
  exact ⟨rfl, m1_below ‹_›⟩
set_option maxHeartbeats 1600000 in
set_option maxRecDepth 100000 in
theorem rlost_any {w : World} {base : Nat} {r : RB} {S : List Qs} {need : Int} (h : RQ w base r S need) (hS : S.length ≤ 1000) (hkept : keptN S = cntS metB S + cntS isOpen S) :
    Calls Try.prog 77 #[.pointer (some ⟨r.g, 0, none⟩)] w fun e w' => e = .returned (.bool (decide ((keptN S : Int) < need))) ∧ Below w.heap.size w w' := by
  obtain ⟨_, f1, _, _⟩ := h.fields
  have HN := Aside0.mk (fun u (hb : Below w.heap.size w u) => rnodes_any (h.below hb) hS)
  have HO := Aside0.mk (fun u (hb : Below w.heap.size w u) => ropen_any (h.below hb) hS)
  have hl : (nodesL S S.length).length = cntS metB S := nodesL_cnt S S.length
  have hl2 : (openL S S.length).length = cntS isOpen S := openL_cnt S S.length
  rw [hkept, ← hl, ← hl2, Int.natCast_add]
  have hle := nodesL_len S S.length
  have hle2 := openL_len S S.length
  obtain ⟨xs, hxs⟩ : ∃ xs, nodesL S S.length = xs := ⟨_, rfl⟩
  obtain ⟨ys, hys⟩ : ∃ ys, openL S S.length = ys := ⟨_, rfl⟩
  rw [hxs] at HN hle ⊢
  rw [hys] at HO hle2 ⊢
  obtain ⟨g, hg⟩ : ∃ g, r.g = g := ⟨_, rfl⟩
  rw [hg] at f1 HN HO ⊢
  clear hg hxs hys hl hl2 h hkept
  have hwr : IntKind.i64.wrap ((xs.length : Int) + (ys.length : Int)) = (xs.length : Int) + (ys.length : Int) := by rw [IntKind.wrap_i64]; omega
  go_enter Try.func77, Try.ntmps77
  go_wp2_with fail
  go_region_held3 (fun w' => Below w.heap.size w w' ∧ w'.cell? ⟨g, 1, none⟩ = some (.int .i64 need))
    (first | exact ⟨below_drew (Below.refl _ _), by simpa using f1⟩ | assumption)
    (first | (go_at_call 75; refine (HN.out _ (m1_below ‹_›)).mono ?_; rintro e u ⟨A, c, rfl, hb, _⟩; have hk := m1_next ‹_› hb; clear hb) | (go_at_call 74; refine (HO.out _ (m1_below ‹_›)).mono ?_; rintro e u ⟨A, c, rfl, hb, _⟩; have hk := m1_next ‹_› hb; clear hb))
  all_goals
    go_wp2
    go_ret
    exact ⟨rfl, m1_below ‹_›⟩
end Go.Proofs.Ytheafmjdncmpoaa
