/-
  Quorum: Open and Nodes.
-/
import Derived.Test.YtheafmjdncmpoaaQuoQ
import Derived.OwnWalk
import Derived.LoopTactic
namespace Go.Proofs.Ytheafmjdncmpoaa
set_option linter.unusedSimpArgs false
set_option linter.unusedVariables false
open Go.RowKit Go.Proofs.YtheafmjdncmpoaaW.PrintWords Go.Proofs.YtheafmjdncmpoaaW.PrintMore

theorem info3 : (Try.prog.info? 3).map (fun i => (i.zero, i.size, i.bytes)) = some (some (.int .i64 0), 1, 8) := by kernel_rfl
def isOpen (s : Qs) : Bool := s.b == 0 && s.y.isNone
/-- the open slots' nodes, of the first so many -/
def openL (S : List Qs) : Nat → List Int
  | 0 => []
  | k + 1 => openL S k ++ (if isOpen (S.getD k zQ) then [(S.getD k zQ).a] else [])
theorem openL_len (S : List Qs) : ∀ k, (openL S k).length ≤ k
  | 0 => Nat.le_refl _
  | k + 1 => by have := openL_len S k; unfold openL; split <;> simp <;> omega
abbrev kI : Kd Int := Kd.int .i64
set_option maxHeartbeats 3200000 in
set_option maxRecDepth 100000 in
theorem Open_any (base : Nat) (F : Nat → Prop) (b : Nat) (S : List Qs) (need : Int) (w : World) (h : QAt w base F b S need) (hS : S.length ≤ 1000) (hneed : need ≠ 0) :
    Calls Try.prog 45 #[.pointer (some ⟨b, 0, none⟩)] w fun e w' => ∃ v', e = .returned v' ∧ Below w.heap.size w w' ∧ kI.R 3 w' w.heap.size (fun _ => True) v' (openL S S.length) := by
  obtain ⟨v, hq, hv⟩ := h.form
  have hc0 := cell_of_row _ b 0 _ _ _ hq
  have hc1 := cell_of_row _ b 1 _ _ _ hq
  simp at hc0 hc1
  have hne : (need == 0) = false := by simpa using hneed
  have HN := none_at b need w hc1
  rw [hne] at HN
  have HN := Aside0.mk HN
  clear h hne
  rcases hv with ⟨rfl, rfl⟩ | ⟨g, c, rfl, hg, _, hs⟩
  · go_enter Try.func45, Try.ntmps45
    go_wp2_with (go_at_call 70; (with_reducible refine HN.out.mono ?_); rintro e w1 ⟨rfl, hw⟩; have hw := hw.symm; subst hw)
    go_loopw [3, 13] (fun o i wr => i = .int .i64 0 ∧ o = .slice none 0 0 ∧ Aside0 (Below w.heap.size w wr)) (fun _ i _ => 0 - (intOf i).toNat)
    case atStart => exact ⟨rfl, rfl, ⟨Below.refl _ _⟩⟩
    case round =>
      obtain ⟨rfl, rfl, HB⟩ := hrel
      go_wp2
      go_ret
      exact ⟨_, rfl, HB.out, Kd.R_nil _ _ _ _ _⟩
  · go_enter Try.func45, Try.ntmps45
    go_wp2_with (go_at_call 70; (with_reducible refine HN.out.mono ?_); rintro e w1 ⟨rfl, hw⟩; have hw := hw.symm; subst hw)
    go_loopw [3, 13] (fun o i wr => ∃ k : Nat, k ≤ S.length ∧ i = .int .i64 k ∧ Aside0 (kI.R 3 wr w.heap.size (fun _ => True) o (openL S k)) ∧ Aside0 (Below w.heap.size w wr)) (fun _ i _ => S.length - (intOf i).toNat)
    case atStart => exact ⟨0, by omega, rfl, ⟨Kd.R_nil _ _ _ _ _⟩, ⟨Below.refl _ _⟩⟩
    case round =>
      obtain ⟨k, hk, rfl, HO, HB⟩ := hrel
      by_cases hgo : k < S.length
      · obtain ⟨s0, s1, s2⟩ := (hs k hgo).below HB.out
        have hlen := openL_len S k
        have HE : Aside0 (openL S (k + 1) = openL S k ++ (if isOpen (S.getD k zQ) then [(S.getD k zQ).a] else [])) := ⟨rfl⟩
        obtain ⟨s, es⟩ : ∃ s, S.getD k zQ = s := ⟨_, rfl⟩
        rw [es] at s0 s1 s2 HE
        clear es hs
        obtain ⟨xs, exs⟩ : ∃ xs, openL S k = xs := ⟨_, rfl⟩
        rw [exs] at HO HE hlen
        clear exs hq
        simp only at s1 s2
        rcases s2 with ⟨s2, s3⟩ | ⟨g', v', s2, s3, s4⟩
        · by_cases hb : s.b = 0
          · have hE : isOpen s = true := by unfold isOpen; rw [hb, s2]; rfl
            rw [hE, if_pos rfl] at HE
            rw [hb] at s1
            clear hE s2 hb
            have LM : Aside0 (xs.length ≤ 1000) := ⟨by omega⟩
            go_wp2_with ((with_reducible refine gate_builtin (b := .append) (xs := #[.tmp 26, .tmp 30]) rfl ?_); at_builtin; refine Kd.R_append kI (w0 := w) w.heap.size rfl (.tmp 26) (.tmp 30) 39 3 (.int .i64 0) 8 rfl Try.underlying39 info3 rfl (by decide) (by omega) u3 xs s.a [.int .i64 s.a] (fun _ => True) (fun _ => False) rfl (by simp [Act.eval]) ?aP (fun _ hk => hk.elim) ?aF ?aO ?aB ?aS ?aL ?_; (case aP => rfl); (case aF => exact fun _ _ => trivial); (case aO => exact Kd.R_below HO.out (by repeat (first | exact Below.refl _ _ | refine Below.setCell ?_ (by simp <;> omega) _ | refine Below.alloc ?_ (by simp <;> omega) _))); (case aB => exact below_step HB.out (by repeat (first | exact Below.refl _ _ | refine Below.setCell ?_ (by simp <;> omega) _ | refine Below.alloc ?_ (by simp <;> omega) _))); (case aS => have := HB.out.size; simp; omega); (case aL => have := LM.out; omega); intro v1 w1 ho hb hg hat; have HO1 := Aside0.mk ho; have HB1 := Aside0.mk hb; clear ho hb hg hat)
            go_roundw
            case rel => exact ⟨k + 1, by omega, by go_num, by rw [HE.out]; exact HO1, HB1⟩
            case measure => simp [intOf]; omega
          · have hb' : (s.b == 0) = false := by simpa using hb
            have hE : isOpen s = false := by unfold isOpen; rw [hb']; rfl
            rw [hE] at HE
            simp only [Bool.false_eq_true, if_false, List.append_nil] at HE
            clear hE s2
            go_wp2
            go_roundw
            case rel => exact ⟨k + 1, by omega, by go_num, by rw [HE.out]; exact ⟨Kd.R_below HO.out (by repeat (first | exact Below.refl _ _ | refine Below.setCell ?_ (by simp <;> omega) _ | refine Below.alloc ?_ (by simp <;> omega) _))⟩, ⟨below_step HB.out (by repeat (first | exact Below.refl _ _ | refine Below.setCell ?_ (by simp <;> omega) _ | refine Below.alloc ?_ (by simp <;> omega) _))⟩⟩
            case measure => simp [intOf]; omega
        · have hE : isOpen s = false := by unfold isOpen; rw [s2]; simp
          rw [hE] at HE
          simp only [Bool.false_eq_true, if_false, List.append_nil] at HE
          clear hE s2
          by_cases hb : s.b = 0
          · rw [hb] at s1
            go_wp2
            go_roundw
            case rel => exact ⟨k + 1, by omega, by go_num, by rw [HE.out]; exact ⟨Kd.R_below HO.out (by repeat (first | exact Below.refl _ _ | refine Below.setCell ?_ (by simp <;> omega) _ | refine Below.alloc ?_ (by simp <;> omega) _))⟩, ⟨below_step HB.out (by repeat (first | exact Below.refl _ _ | refine Below.setCell ?_ (by simp <;> omega) _ | refine Below.alloc ?_ (by simp <;> omega) _))⟩⟩
            case measure => simp [intOf]; omega
          · have hb' : (s.b == 0) = false := by simpa using hb
            go_wp2
            go_roundw
            case rel => exact ⟨k + 1, by omega, by go_num, by rw [HE.out]; exact ⟨Kd.R_below HO.out (by repeat (first | exact Below.refl _ _ | refine Below.setCell ?_ (by simp <;> omega) _ | refine Below.alloc ?_ (by simp <;> omega) _))⟩, ⟨below_step HB.out (by repeat (first | exact Below.refl _ _ | refine Below.setCell ?_ (by simp <;> omega) _ | refine Below.alloc ?_ (by simp <;> omega) _))⟩⟩
            case measure => simp [intOf]; omega
      · obtain rfl : k = S.length := by omega
        go_wp2
        go_ret
        exact ⟨_, rfl, HB.out, HO.out⟩
/-- who meets some, of the first so many slots -/
def nodesL (S : List Qs) : Nat → List Int
  | 0 => []
  | k + 1 => nodesL S k ++ (S.getD k zQ).y.toList
theorem nodesL_len (S : List Qs) : ∀ k, (nodesL S k).length ≤ k
  | 0 => Nat.le_refl _
  | k + 1 => by have := nodesL_len S k; unfold nodesL; cases (S.getD k zQ).y <;> simp <;> omega
set_option maxHeartbeats 3200000 in
set_option maxRecDepth 100000 in
theorem Nodes_any (base : Nat) (F : Nat → Prop) (b : Nat) (S : List Qs) (need : Int) (w : World) (h : QAt w base F b S need) (hS : S.length ≤ 1000) (hneed : need ≠ 0) :
    Calls Try.prog 46 #[.pointer (some ⟨b, 0, none⟩)] w fun e w' => ∃ v', e = .returned v' ∧ Below w.heap.size w w' ∧ kI.R 3 w' w.heap.size (fun _ => True) v' (nodesL S S.length) := by
  obtain ⟨v, hq, hv⟩ := h.form
  have hc0 := cell_of_row _ b 0 _ _ _ hq
  have hc1 := cell_of_row _ b 1 _ _ _ hq
  simp at hc0 hc1
  have hne : (need == 0) = false := by simpa using hneed
  have HN := none_at b need w hc1
  rw [hne] at HN
  have HN := Aside0.mk HN
  clear h hne
  rcases hv with ⟨rfl, rfl⟩ | ⟨g, c, rfl, hg, _, hs⟩
  · go_enter Try.func46, Try.ntmps46
    go_wp2_with (go_at_call 70; (with_reducible refine HN.out.mono ?_); rintro e w1 ⟨rfl, hw⟩; have hw := hw.symm; subst hw)
    go_loopw [3, 13] (fun o i wr => i = .int .i64 0 ∧ o = .slice none 0 0 ∧ Aside0 (Below w.heap.size w wr)) (fun _ i _ => 0 - (intOf i).toNat)
    case atStart => exact ⟨rfl, rfl, ⟨Below.refl _ _⟩⟩
    case round =>
      obtain ⟨rfl, rfl, HB⟩ := hrel
      go_wp2
      go_ret
      exact ⟨_, rfl, HB.out, Kd.R_nil _ _ _ _ _⟩
  · go_enter Try.func46, Try.ntmps46
    go_wp2_with (go_at_call 70; (with_reducible refine HN.out.mono ?_); rintro e w1 ⟨rfl, hw⟩; have hw := hw.symm; subst hw)
    go_loopw [3, 13] (fun o i wr => ∃ k : Nat, k ≤ S.length ∧ i = .int .i64 k ∧ Aside0 (kI.R 3 wr w.heap.size (fun _ => True) o (nodesL S k)) ∧ Aside0 (Below w.heap.size w wr)) (fun _ i _ => S.length - (intOf i).toNat)
    case atStart => exact ⟨0, by omega, rfl, ⟨Kd.R_nil _ _ _ _ _⟩, ⟨Below.refl _ _⟩⟩
    case round =>
      obtain ⟨k, hk, rfl, HO, HB⟩ := hrel
      by_cases hgo : k < S.length
      · obtain ⟨s0, s1, s2⟩ := (hs k hgo).below HB.out
        have hlen := nodesL_len S k
        have HE : Aside0 (nodesL S (k + 1) = nodesL S k ++ (S.getD k zQ).y.toList) := ⟨rfl⟩
        obtain ⟨s, es⟩ : ∃ s, S.getD k zQ = s := ⟨_, rfl⟩
        rw [es] at s0 s1 s2 HE
        clear es hs
        obtain ⟨xs, exs⟩ : ∃ xs, nodesL S k = xs := ⟨_, rfl⟩
        rw [exs] at HO HE hlen
        clear exs hq
        simp only at s1 s2
        have LM : Aside0 (xs.length ≤ 1000) := ⟨by omega⟩
        rcases s2 with ⟨s2, s3⟩ | ⟨g', v', s2, s3, s4⟩
        · rw [s2] at HE
          simp only [Option.toList_none, List.append_nil] at HE
          clear s2
          go_wp2
          go_roundw
          case rel => exact ⟨k + 1, by omega, by go_num, by rw [HE.out]; exact ⟨Kd.R_below HO.out (by repeat (first | exact Below.refl _ _ | refine Below.setCell ?_ (by simp <;> omega) _ | refine Below.alloc ?_ (by simp <;> omega) _))⟩, ⟨below_step HB.out (by repeat (first | exact Below.refl _ _ | refine Below.setCell ?_ (by simp <;> omega) _ | refine Below.alloc ?_ (by simp <;> omega) _))⟩⟩
          case measure => simp [intOf]; omega
        · rw [s2] at HE
          simp only [Option.toList_some] at HE
          clear s2
          have hg' := World.block_lt_of_cell? wr _ s4
          simp only at hg'
          go_wp2_with ((with_reducible refine gate_builtin (b := .append) (xs := #[.tmp 20, .tmp 25]) rfl ?_); at_builtin; refine Kd.R_append kI (w0 := w) w.heap.size rfl (.tmp 20) (.tmp 25) 39 3 (.int .i64 0) 8 rfl Try.underlying39 info3 rfl (by decide) (by omega) u3 xs v' [.int .i64 v'] (fun _ => True) (fun _ => False) rfl (by simp [Act.eval]) ?aP (fun _ hk => hk.elim) ?aF ?aO ?aB ?aS ?aL ?_; (case aP => rfl); (case aF => exact fun _ _ => trivial); (case aO => exact Kd.R_below HO.out (by repeat (first | exact Below.refl _ _ | refine Below.setCell ?_ (by simp <;> omega) _ | refine Below.alloc ?_ (by simp <;> omega) _))); (case aB => exact below_step HB.out (by repeat (first | exact Below.refl _ _ | refine Below.setCell ?_ (by simp <;> omega) _ | refine Below.alloc ?_ (by simp <;> omega) _))); (case aS => have := HB.out.size; simp; omega); (case aL => have := LM.out; omega); intro v1 w1 ho hb hg hat; have HO1 := Aside0.mk ho; have HB1 := Aside0.mk hb; clear ho hb hg hat)
          go_roundw
          case rel => exact ⟨k + 1, by omega, by go_num, by rw [HE.out]; exact HO1, HB1⟩
          case measure => simp [intOf]; omega
      · obtain rfl : k = S.length := by omega
        go_wp2
        go_ret
        exact ⟨_, rfl, HB.out, HO.out⟩
end Go.Proofs.Ytheafmjdncmpoaa
