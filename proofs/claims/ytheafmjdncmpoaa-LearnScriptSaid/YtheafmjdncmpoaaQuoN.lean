/-
  Quorum: New.
-/
import Derived.Test.YtheafmjdncmpoaaQuoA
namespace Go.Proofs.Ytheafmjdncmpoaa
set_option linter.unusedSimpArgs false
set_option linter.unusedVariables false
open Go.RowKit Go.Proofs.YtheafmjdncmpoaaW.PrintWords Go.Proofs.YtheafmjdncmpoaaW.PrintMore

/-- the slots made of the first so many numbers; none: one of them may not be -/
def newS (l : List Int) : Nat → Option (List Qs)
  | 0 => some []
  | k + 1 => (newS l k).bind fun S => if okNode (l.getD k 0) = true ∧ slotN S (l.getD k 0) = none then some (S ++ [⟨l.getD k 0, 0, none⟩]) else none
theorem newS_len (l : List Int) : ∀ k S, newS l k = some S → S.length = k
  | 0, S, h => by simp [newS] at h; subst h; rfl
  | k + 1, S, h => by
    unfold newS at h
    obtain ⟨T, hT, h⟩ := Option.bind_eq_some_iff.1 h
    split at h
    · have := newS_len l k T hT
      simp at h
      rw [← h]; simp [this]
    · cases h
theorem newS_none (l : List Int) {k : Nat} (h : newS l k = none) : ∀ m, k ≤ m → newS l m = none := by
  intro m hm
  induction hm with
  | refl => exact h
  | step _ ih => unfold newS; rw [ih]; rfl
theorem info110 : (Try.prog.info? 110).map (fun i => (i.zero, i.size, i.bytes)) = some (some (.agg #[.int .i64 0, .int .i64 0, .pointer none]), 3, 24) := by kernel_rfl
/-- what New answers -/
def NewAns (l : List Int) (need : Int) (w : World) (e : Ending) (w' : World) : Prop :=
  match newS l l.length with
  | none => e = .returned (.tuple #[.pointer none, .int .i64 2]) ∧ Below w.heap.size w w'
  | some S => if need < 1 ∨ (l.length : Int) < need then e = .returned (.tuple #[.pointer none, .int .i64 2]) ∧ Below w.heap.size w w'
      else ∃ b, e = .returned (.tuple #[.pointer (some ⟨b, 0, none⟩), .int .i64 0]) ∧ Below w.heap.size w w' ∧ QAt w' w.heap.size (fun _ => True) b S need
theorem find_in (v : Value) (S : List Qs) (m : Int) (c : Nat) (w : World) (base : Nat) (F : Nat → Prop) (hS : S.length ≤ 1000) (hr : kQ.R 110 w base F v S) (hc : w.cell? ⟨c, 0, none⟩ = some (.int .i64 m)) :
    Calls Try.prog 67 #[v, .func (.func 96) #[] #[.pointer (some ⟨c, 0, none⟩)]] w fun e w' => ∃ p, e = .returned (.pointer p) ∧ (p = none ↔ slotN S m = none) ∧ Below w.heap.size w w' := by
  have hr' := hr
  obtain ⟨h0, inner, ho, hrr⟩ := hr
  rcases ho.2 with ⟨rfl, hz⟩ | ⟨g, cap, cur, rfl, hg, _, _, hm, _⟩
  · obtain rfl := List.length_eq_zero_iff.1 hz
    exact (find_nil _ w).mono fun e u ⟨h1, h2⟩ => ⟨none, h1, by simp [slotN, firstN], h2⟩
  · refine (find_of g cap c S m w hS (fun i hi => ?_) hc).mono fun e u ⟨h1, h2⟩ => ⟨_, h1, by simp, h2⟩
    obtain ⟨ad, e, hs⟩ := slot_at (Kd.R_reads' hr').2.2 i hi
    obtain rfl := Option.some.inj e
    rwa [add_plain] at hs
theorem nb_below {w w' : World} {b : Nat} {v : Value} (h : Below w.heap.size w w' ∧ w'.cell? ⟨b, 0, none⟩ = some v) : Below w.heap.size w w' := h.1
theorem nb_next {w w' u : World} {b : Nat} {v : Value} (h : Below w.heap.size w w' ∧ w'.cell? ⟨b, 0, none⟩ = some v) (hb : Below w'.heap.size w' u) : Below w.heap.size w u ∧ u.cell? ⟨b, 0, none⟩ = some v :=
  ⟨below_step h.1 hb, pw_cell_below hb h.2⟩
theorem cell_get {w : World} {A : Option Addr} {l : List Int} (h : Kd.C kI w A l.length l) (i : Nat) (hi : i < l.length) : ∃ ad, A = some ad ∧ w.cell? (ad.add i) = some (.int .i64 (l.getD i 0)) := by
  obtain ⟨ad, c, e, hl, hK, hc⟩ := Kd.C_get h 0 (i : Int) (by omega) (by omega)
  rw [Int.toNat_natCast] at hK hc
  obtain rfl : c = [.int .i64 (l.getD i 0)] := hK
  have := hc 0 _ rfl
  exact ⟨ad, e, by simpa [show kI.sz = 1 from rfl] using this⟩
theorem kQ_ne : ∀ q, q ∈ 110 :: kQ.E → q ≠ 59 := by
  intro q hq
  have h : q ∈ [110, 3] := hq
  simp at h
  omega
theorem new_keep {wr u W w1 : World} {b : Nat} {v : Value} {need : Int} {base : Nat} {F : Nat → Prop} {S : List Qs} (hq : wr.heap[b]? = some (.cells #[v, .int .i64 need] 59 (0, 0))) (ho : kQ.R 110 wr base F v S) (hb : Below wr.heap.size wr W) (hg : W.grownBy w1 v.ownBlock) :
    Aside0 (w1.cell? ⟨b, 0, none⟩ = some v ∧ w1.frozen? ⟨b, 0, none⟩ = false ∧ w1.heap[b]? = some (.cells #[v, .int .i64 need] 59 (0, 0))) := by
  have hlt := (Array.getElem?_eq_some_iff.1 hq).1
  have h1 : W.heap[b]? = some (.cells #[v, .int .i64 need] 59 (0, 0)) := (hb.block b hlt).trans hq
  have hne : some b ≠ v.ownBlock := by
    intro e
    obtain ⟨h0, inner, hown, _⟩ := ho
    obtain ⟨cells, hc⟩ := own_typed hown b e.symm
    rw [hq] at hc
    simp at hc
  have h2 := (hg.block b (Nat.lt_of_lt_of_le hlt hb.size) hne).trans h1
  exact ⟨cell_of_row _ b 0 _ _ _ h2, frozen_of_row _ b 0 _ _ h2, h2⟩
set_option maxHeartbeats 6400000 in
set_option maxRecDepth 100000 in
theorem New_any (A : Option Addr) (cap : Nat) (l : List Int) (need : Int) (w : World) (hr : Kd.C kI w A l.length l) (hl : l.length ≤ 1000) :
    Calls Try.prog 32 #[.slice A l.length cap, .int .i64 need] w (NewAns l need w) := by
  have HR := Aside0.mk hr
  clear hr
  obtain ⟨B, hB⟩ : ∃ B, B = w.heap.size := ⟨_, rfl⟩
  go_enter Try.func32, Try.ntmps32
  go_wp2
  go_loopw [14] (fun i wr => ∃ (k : Nat) (S : List Qs) (v : Value), k ≤ l.length ∧ i = .int .i64 k ∧ Aside0 (newS l k = some S) ∧ Aside0 (wr.heap[w.heap.size]? = some (.cells #[v, .int .i64 need] 59 (0, 0))) ∧ Aside0 (kQ.R 110 wr w.heap.size (fun _ => True) v S) ∧ Aside0 (Below w.heap.size w wr)) (fun i _ => l.length - (intOf i).toNat)
  case atStart => exact ⟨0, [], .slice none 0 0, by omega, rfl, ⟨rfl⟩, ⟨heap_alloc_new _ _⟩, ⟨Kd.R_nil _ _ _ _ _⟩, ⟨(Below.refl _ _).alloc (Nat.le_refl _) _⟩⟩
  case round =>
    obtain ⟨k, S, v, hk, rfl, HS, HQ, HO, HB⟩ := hrel
    by_cases hgo : k < l.length
    · have hSl := newS_len l k S HS.out
      obtain ⟨ad, rfl, hcell⟩ := cell_get (Kd.C_below HR.out HB.out) k hgo
      have HNX : Aside0 (newS l (k + 1) = (if okNode (l.getD k 0) = true ∧ slotN S (l.getD k 0) = none then some (S ++ [⟨l.getD k 0, 0, none⟩]) else none)) := ⟨by rw [newS, HS.out]; rfl⟩
      obtain ⟨n, hn⟩ : ∃ n, l.getD k 0 = n := ⟨_, rfl⟩
      rw [hn] at hcell HNX
      clear hn
      have q0 := cell_of_row _ w.heap.size 0 _ _ _ HQ.out
      simp at q0
      have HLT := Aside0.mk (Array.getElem?_eq_some_iff.1 HQ.out).1
      have HK := Aside0.mk (fun w' : World => node_any n w')
      have HF : Aside0 (∀ (w' : World) (c : Nat), Below wr.heap.size wr w' → w'.cell? ⟨c, 0, none⟩ = some (.int .i64 n) → Calls Try.prog 67 #[v, .func (.func 96) #[] #[.pointer (some ⟨c, 0, none⟩)]] w' fun e u => ∃ p, e = .returned (.pointer p) ∧ (p = none ↔ slotN S n = none) ∧ Below w'.heap.size w' u) :=
        ⟨fun w' c hb hc => find_in v S n c w' w.heap.size (fun _ => True) (by omega) (Kd.R_below HO.out hb) hc⟩
      obtain ⟨ok, hok⟩ : ∃ ok, okNode n = ok := ⟨_, rfl⟩
      rw [hok] at HK HNX
      clear hok
      cases ok with
      | false =>
        rw [if_neg (by simp)] at HNX
        go_wp2_with fail
        go_quiet ((go_at_call 66; exact Calls.quiet_of_same (HK.out _)))
        go_wp2
        refine bodyPost_ret (v := .tuple #[.pointer none, .int .i64 2]) (by simp [results, Try.results32, go_sem]) rfl ?_
        unfold NewAns
        rw [newS_none l HNX.out l.length (by omega)]
        exact ⟨rfl, below_step HB.out (pw_below_drewN (Below.refl _ _) _)⟩
      | true =>
        obtain ⟨sl, hsl⟩ : ∃ sl, slotN S n = sl := ⟨_, rfl⟩
        rw [hsl] at HNX HF
        clear hsl
        cases sl with
        | some i =>
          rw [if_neg (by simp)] at HNX
          go_wp2_with fail
          go_region_held3 (fun w' => Below wr.heap.size wr w' ∧ w'.cell? ⟨w.heap.size, 0, none⟩ = some v)
            (first | exact ⟨below_drew (Below.refl _ _), by simpa using q0⟩ | assumption)
            (first | (go_at_call 66; refine (HK.out _).mono ?_; rintro e u ⟨rfl, hw⟩; have hw := hw.symm; subst hw) | (go_at_call 68; refine (of_box _ _).mono ?_; rintro e u ⟨c, rfl, hb, hc⟩; have hk := nb_next ‹_› hb; clear hb) | (go_at_call 67; refine (HF.out _ _ (nb_below ‹_›) ‹_›).mono ?_; rintro e u ⟨p, rfl, hp, hb⟩; (obtain ⟨p, rfl⟩ : ∃ p', p = some p' := by (cases p with | none => exact absurd (hp.1 rfl) (by simp) | some p' => exact ⟨p', rfl⟩)); clear hp; have hk := nb_next ‹_› hb; clear hb))
          have HB2 := Aside0.mk (nb_below ‹_›)
          go_wp2
          refine bodyPost_ret (v := .tuple #[.pointer none, .int .i64 2]) (by simp [results, Try.results32, go_sem]) rfl ?_
          unfold NewAns
          rw [newS_none l HNX.out l.length (by omega)]
          exact ⟨rfl, below_step HB.out HB2.out⟩
        | none =>
          rw [if_pos (by simp)] at HNX
          go_wp2_with fail
          go_region_held3 (fun w' => Below wr.heap.size wr w' ∧ w'.cell? ⟨w.heap.size, 0, none⟩ = some v)
            (first | exact ⟨below_drew (Below.refl _ _), by simpa using q0⟩ | assumption)
            (first | (go_at_call 66; refine (HK.out _).mono ?_; rintro e u ⟨rfl, hw⟩; have hw := hw.symm; subst hw) | (go_at_call 68; refine (of_box _ _).mono ?_; rintro e u ⟨c, rfl, hb, hc⟩; have hk := nb_next ‹_› hb; clear hb) | (go_at_call 67; refine (HF.out _ _ (nb_below ‹_›) ‹_›).mono ?_; rintro e u ⟨p, rfl, hp, hb⟩; (obtain rfl : p = none := hp.2 (by simp)); clear hp; have hk := nb_next ‹_› hb; clear hb))
          obtain ⟨hB2, q2⟩ := ‹Below wr.heap.size wr _ ∧ _›
          have HB2 := Aside0.mk hB2
          clear hB2
          have LM : Aside0 (S.length ≤ 1000) := ⟨by omega⟩
          have LK : Aside0 (S.length = k) := ⟨hSl⟩
          go_wp2_with ((with_reducible refine gate_builtin (b := .append) (xs := #[.tmp 35, .tmp 39]) rfl ?_); at_builtin; refine Kd.R_append kQ (w0 := w) w.heap.size rfl (.tmp 35) (.tmp 39) 57 110 (.agg #[.int .i64 0, .int .i64 0, .pointer none]) 24 rfl Try.underlying57 info110 rfl (by show 0 < 3; omega) (by omega) v S ⟨n, 0, none⟩ [.int .i64 n, .int .i64 0, .pointer none] (fun _ => True) (fun _ => False) rfl (by simp [Act.eval]) ?aP (fun _ hk => hk.elim) ?aF ?aO ?aB ?aS ?aL ?_; (case aP => exact ⟨[.int .i64 n, .int .i64 0], [.pointer none], rfl, ⟨[.int .i64 n], [.int .i64 0], rfl, rfl, rfl⟩, .inl ⟨rfl, rfl⟩⟩); (case aF => exact fun _ _ => trivial); (case aO => exact Kd.R_below HO.out (below_step HB2.out (by repeat (first | exact Below.refl _ _ | refine Below.setCell ?_ (by simp <;> omega) _ | refine Below.alloc ?_ (by simp <;> omega) _)))); (case aB => exact below_step HB.out (below_step HB2.out (by repeat (first | exact Below.refl _ _ | refine Below.setCell ?_ (by simp <;> omega) _ | refine Below.alloc ?_ (by simp <;> omega) _)))); (case aS => have h1 := HB.out.size; have h2 := HB2.out.size; first | omega | (simp; omega)); (case aL => have := LM.out; omega); intro v1 w1 ho hb hg hat; obtain ⟨A1, c1, e1⟩ := Kd.R_slice ho; subst e1; have HO1 := Aside0.mk ho; have HB1 := Aside0.mk hb; have HQ1 := @new_keep wr u _ w1 _ v need _ _ S HQ.out HO.out HB2.out hg; have q3 := HQ1.out.1; have q4 := HQ1.out.2.1; clear ho hb hg hat)
          go_roundw
          case rel =>
            have hO := HO1.out
            rw [show (S ++ [(⟨n, 0, none⟩ : Qs)]).length = k + 1 by rw [List.length_append, LK.out]; rfl] at hO
            exact ⟨k + 1, S ++ [⟨n, 0, none⟩], _, by omega, by go_num, HNX, ⟨heap_setCell_same _ _ _ _ _ _ HQ1.out.2.2⟩, ⟨Kd.R_set hO HQ1.out.2.2 kQ_ne _ _⟩, ⟨HB1.out.setCell (Nat.le_refl _) _⟩⟩
          case measure => simp [intOf]; omega
    · obtain rfl : k = l.length := by omega
      have hSl := newS_len l _ S HS.out
      have AN : ∀ e, NewAns l need w e wr = _ := fun e => by unfold NewAns; rw [HS.out]
      have AN := Aside0.mk AN
      by_cases h1 : need < 1
      · go_wp2
        refine bodyPost_ret (v := .tuple #[.pointer none, .int .i64 2]) (by simp [results, Try.results32, go_sem]) rfl ?_
        rw [AN.out, if_pos (Or.inl h1)]
        exact ⟨rfl, HB.out⟩
      · by_cases h2 : (l.length : Int) < need
        · go_wp2
          refine bodyPost_ret (v := .tuple #[.pointer none, .int .i64 2]) (by simp [results, Try.results32, go_sem]) rfl ?_
          rw [AN.out, if_pos (Or.inr h2)]
          exact ⟨rfl, HB.out⟩
        · go_wp2
          refine bodyPost_ret (v := .tuple #[.pointer (some ⟨w.heap.size, 0, none⟩), .int .i64 0]) (by simp [results, Try.results32, go_sem]) rfl ?_
          rw [AN.out, if_neg (by omega)]
          exact ⟨_, rfl, HB.out, v, trivial, Nat.le_refl _, HQ.out, HO.out⟩
end Go.Proofs.Ytheafmjdncmpoaa
