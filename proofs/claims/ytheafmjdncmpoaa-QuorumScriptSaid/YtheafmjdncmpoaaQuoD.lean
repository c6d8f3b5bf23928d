/-
  Quorum: the document's Lose and Add answer as the program's.
-/
import Derived.Test.YtheafmjdncmpoaaQuoB
namespace Go.Proofs.Ytheafmjdncmpoaa
set_option linter.unusedSimpArgs false
set_option linter.unusedVariables false
open Go.RowKit Go.Proofs.YtheafmjdncmpoaaW.PrintWords Go.Proofs.YtheafmjdncmpoaaW.PrintMore

theorem Moved.one {F : Nat → Prop} {w : World} (p : Addr) (hp : F p.block) (v : Value) : Moved F w (w.setCell p v) := (Moved.of_below (Below.refl _ _)).set p hp v
def RAns (w : World) (base : Nat) (r : RB) (q : Int × List Qs) (need : Int) (e : Ending) (w' : World) : Prop := e = .returned (.int .i64 q.1) ∧ Moved r.own w w' ∧ RQ w' base r q.2 need
set_option maxHeartbeats 1600000 in
set_option maxRecDepth 100000 in
theorem rlose_any {w : World} {base : Nat} {r : RB} {S : List Qs} {need : Int} (h : RQ w base r S need) (hS : S.length ≤ 1000) (n : Int) :
    Calls Try.prog 39 #[.pointer (some ⟨r.g, 0, none⟩), .int .i64 n] w (RAns w base r (loseI S n) need) := by
  obtain ⟨f0, f1, f2, f3⟩ := h.fields
  have HA := Aside0.mk (at_any h hS n)
  have HR := Aside0.mk h
  cases hsl : slotN S n with
  | none =>
    have e : loseI S n = (6, S) := by unfold loseI; rw [hsl]
    rw [e]
    have e2 : atI S n = -1 := by unfold atI; rw [hsl]
    rw [e2] at HA
    clear hsl e e2 h
    go_enter Try.func39, Try.ntmps39
    go_wp2_with (go_at_call 72; (with_reducible refine HA.out.mono ?_); rintro e w1 ⟨rfl, hw⟩; have hw := hw.symm; subst hw)
    go_ret
    exact ⟨rfl, Moved.of_below (Below.refl _ _), HR.out⟩
  | some i =>
    have hi := (firstN_lt hsl).1
    have e : loseI S n = if (S.getD i zQ).b = 1 ∨ (S.getD i zQ).y.isSome = true then (9, S) else (0, S.set i { S.getD i zQ with b := 1 }) := by unfold loseI; rw [hsl]
    rw [e]
    have e2 : atI S n = i := by unfold atI; rw [hsl]
    rw [e2] at HA
    clear hsl e e2
    obtain ⟨c0, c1, c2⟩ := h.cells hi
    have hw := h.wf i hi
    have HG := Aside0.mk (h.setGone hi)
    have q2 := frozen_of_row _ r.o i _ _ h.ho
    clear h
    obtain ⟨s, hs⟩ : ∃ s, S.getD i zQ = s := ⟨_, rfl⟩
    rw [hs] at c0 c1 c2 hw HG ⊢
    clear hs
    by_cases hb : s.b = 1
    · rw [if_pos (.inl hb)]
      rw [hb] at c2
      go_enter Try.func39, Try.ntmps39
      go_wp2_with (go_at_call 72; (with_reducible refine HA.out.mono ?_); rintro e w1 ⟨rfl, hw⟩; have hw := hw.symm; subst hw)
      go_ret
      exact ⟨rfl, Moved.of_below (Below.refl _ _), HR.out⟩
    · have hb' : (s.b == 1) = false := by simpa using hb
      rw [hb'] at c2
      cases hy : s.y with
      | some v =>
        rw [if_pos (.inr (by rfl))]
        have hv := hw.2 v hy
        rw [hy] at c1
        simp only [Option.getD_some] at c1
        go_enter Try.func39, Try.ntmps39
        go_wp2_with (go_at_call 72; (with_reducible refine HA.out.mono ?_); rintro e w1 ⟨rfl, hw⟩; have hw := hw.symm; subst hw)
        go_ret
        exact ⟨rfl, Moved.of_below (Below.refl _ _), HR.out⟩
      | none =>
        rw [if_neg (by simp [hb])]
        rw [hy] at c1
        simp only [Option.getD_none] at c1
        go_enter Try.func39, Try.ntmps39
        go_wp2_with (go_at_call 72; (with_reducible refine HA.out.mono ?_); rintro e w1 ⟨rfl, hw⟩; have hw := hw.symm; subst hw)
        go_ret
        exact ⟨rfl, Moved.one _ (.inr (.inr (.inr rfl))) _, HG.out⟩
theorem rnode_any (n : Int) (w : World) : Calls Try.prog 69 #[.int .i64 n] w fun e w' => e = .returned (.bool (okNode n)) ∧ w' = w := by
  unfold okNode
  by_cases h1 : 1 ≤ n
  · by_cases h2 : n ≤ 64
    · rw [show decide (1 ≤ n ∧ n ≤ 64) = true by simp; omega]
      go_enter Try.func69, Try.ntmps69
      go_wp2
      go_ret
      exact ⟨rfl, rfl⟩
    · rw [show decide (1 ≤ n ∧ n ≤ 64) = false by simp; omega]
      have h3 : 64 < n := by omega
      clear h2
      go_enter Try.func69, Try.ntmps69
      go_wp2
      go_ret
      refine ⟨?_, rfl⟩
      simp
      omega
  · rw [show decide (1 ≤ n ∧ n ≤ 64) = false by simp; omega]
    have h3 : n < 1 := by omega
    clear h1
    go_enter Try.func69, Try.ntmps69
    go_wp2
    go_ret
    refine ⟨?_, rfl⟩
    simp
set_option maxHeartbeats 3200000 in
set_option maxRecDepth 100000 in
theorem radd_any {w : World} {base : Nat} {r : RB} {S : List Qs} {need : Int} (h : RQ w base r S need) (hS : S.length ≤ 1000) (n who : Int) :
    Calls Try.prog 41 #[.pointer (some ⟨r.g, 0, none⟩), .int .i64 n, .int .i64 who] w (RAns w base r (addI S n who) need) := by
  obtain ⟨f0, f1, f2, f3⟩ := h.fields
  have HA := Aside0.mk (at_any h hS n)
  have HR := Aside0.mk h
  have HK := Aside0.mk (rnode_any who w)
  cases hok : okNode who with
  | false =>
    have e : addI S n who = (2, S) := by unfold addI; rw [if_pos hok]
    rw [e]
    rw [hok] at HK
    clear e hok h
    go_enter Try.func41, Try.ntmps41
    go_wp2_with (first
      | (go_at_call 72; (with_reducible refine HA.out.mono ?_); rintro e w1 ⟨rfl, hw⟩; have hw := hw.symm; subst hw)
      | (go_at_call 69; (with_reducible refine HK.out.mono ?_); rintro e w1 ⟨rfl, hw⟩; have hw := hw.symm; subst hw))
    go_ret
    exact ⟨rfl, Moved.of_below (Below.refl _ _), HR.out⟩
  | true =>
    have hwho : 1 ≤ who := by unfold okNode at hok; simp at hok; omega
    have e0 : addI S n who = (match slotN S n with
      | none => (6, S)
      | some i => if (S.getD i zQ).b = 1 then (9, S) else if (S.getD i zQ).y.isSome = true ∨ (byN S who).isSome = true then (7, S) else (0, S.set i { S.getD i zQ with y := some who })) := by unfold addI; rw [if_neg (by simp [hok])]; rfl
    rw [hok] at HK
    cases hsl : slotN S n with
    | none =>
      rw [hsl] at e0
      simp only at e0
      rw [e0]
      have e2 : atI S n = -1 := by unfold atI; rw [hsl]
      rw [e2] at HA
      clear hsl e0 e2 h hok
      go_enter Try.func41, Try.ntmps41
      go_wp2_with (first
        | (go_at_call 72; (with_reducible refine HA.out.mono ?_); rintro e w1 ⟨rfl, hw⟩; have hw := hw.symm; subst hw)
        | (go_at_call 69; (with_reducible refine HK.out.mono ?_); rintro e w1 ⟨rfl, hw⟩; have hw := hw.symm; subst hw))
      go_ret
      exact ⟨rfl, Moved.of_below (Below.refl _ _), HR.out⟩
    | some i =>
      have hi := (firstN_lt hsl).1
      rw [hsl] at e0
      simp only at e0
      rw [e0]
      have e2 : atI S n = i := by unfold atI; rw [hsl]
      rw [e2] at HA
      clear hsl e0 e2 hok
      obtain ⟨c0, c1, c2⟩ := h.cells hi
      have hw := h.wf i hi
      have HG := Aside0.mk (h.setBy hi hwho)
      have q2 := frozen_of_row _ r.b i _ _ h.hb
      have HCS := Aside0.mk (fun j (hj : j < S.length) => (h.cells hj).2.1)
      have HWF := Aside0.mk h.wf
      clear h
      obtain ⟨s, hs⟩ : ∃ s, S.getD i zQ = s := ⟨_, rfl⟩
      rw [hs] at c0 c1 c2 hw HG ⊢
      clear hs
      by_cases hb : s.b = 1
      · rw [if_pos hb]
        rw [hb] at c2
        go_enter Try.func41, Try.ntmps41
        go_wp2_with (first
          | (go_at_call 72; (with_reducible refine HA.out.mono ?_); rintro e w1 ⟨rfl, hw⟩; have hw := hw.symm; subst hw)
          | (go_at_call 69; (with_reducible refine HK.out.mono ?_); rintro e w1 ⟨rfl, hw⟩; have hw := hw.symm; subst hw))
        go_ret
        exact ⟨rfl, Moved.of_below (Below.refl _ _), HR.out⟩
      · have hb' : (s.b == 1) = false := by simpa using hb
        rw [hb'] at c2
        rw [if_neg hb]
        cases hy : s.y with
        | some v =>
          rw [if_pos (.inl (by rfl))]
          have hv := hw.2 v hy
          rw [hy] at c1
          simp only [Option.getD_some] at c1
          go_enter Try.func41, Try.ntmps41
          go_wp2_with (first
            | (go_at_call 72; (with_reducible refine HA.out.mono ?_); rintro e w1 ⟨rfl, hw⟩; have hw := hw.symm; subst hw)
            | (go_at_call 69; (with_reducible refine HK.out.mono ?_); rintro e w1 ⟨rfl, hw⟩; have hw := hw.symm; subst hw))
          go_ret
          exact ⟨rfl, Moved.of_below (Below.refl _ _), HR.out⟩
        | none =>
          rw [hy] at c1
          simp only [Option.getD_none] at c1
          have HIF : Aside0 (∀ q : Int × List Qs, ((byN S who).isSome = true → q = (7, S)) → (byN S who = none → q = (0, S.set i { s with y := some who })) → (if (none : Option Int).isSome = true ∨ (byN S who).isSome = true then (7, S) else (0, S.set i { s with y := some who })) = q) := ⟨fun q h1 h2 => by
            cases hb : byN S who with
            | none => rw [if_neg (by simp)]; exact (h2 hb).symm
            | some j => rw [if_pos (.inr (by rfl))]; exact (h1 (by rw [hb]; rfl)).symm⟩
          obtain ⟨q, hq⟩ : ∃ q, (if (none : Option Int).isSome = true ∨ (byN S who).isSome = true then ((7 : Int), S) else (0, S.set i { s with y := some who })) = q := ⟨_, rfl⟩
          rw [hq]
          have HQ : Aside0 (((byN S who).isSome = true → q = (7, S)) ∧ (byN S who = none → q = (0, S.set i { s with y := some who }))) := ⟨⟨fun hb => by rw [← hq, if_pos (.inr hb)], fun hb => by rw [← hq, if_neg (by simp [hb])]⟩⟩
          clear hq HIF hy hw
          go_enter Try.func41, Try.ntmps41
          go_wp2_with (first
            | (go_at_call 72; (with_reducible refine HA.out.mono ?_); rintro e w1 ⟨rfl, hw⟩; have hw := hw.symm; subst hw)
            | (go_at_call 69; (with_reducible refine HK.out.mono ?_); rintro e w1 ⟨rfl, hw⟩; have hw := hw.symm; subst hw))
          go_loop [8] (fun u => ∃ k : Nat, k ≤ S.length ∧ u = .int .i64 k ∧ Aside0 (∀ j, j < k → ((S.getD j zQ).y == some who) = false)) (fun u => S.length - (intOf u).toNat)
          case atStart => exact ⟨0, by omega, rfl, ⟨fun j hj => absurd hj (by omega)⟩⟩
          case round =>
            obtain ⟨k, hk, rfl, HP⟩ := hrel
            by_cases hgo : k < S.length
            · have q0 := HCS.out k hgo
              have hwk := (HWF.out k hgo).2
              obtain ⟨t, ht⟩ : ∃ t, (S.getD k zQ).y = t := ⟨_, rfl⟩
              have HT := Aside0.mk ht
              rw [ht] at q0 hwk
              clear ht
              by_cases he : t = some who
              · subst he
                have hs : q = (7, S) := HQ.out.1 (by rw [show byN S who = some k from firstN_some HP.out hgo (by rw [HT.out]; simp)]; rfl)
                subst hs
                clear HQ
                simp only [Option.getD_some] at q0
                go_wp2
                go_ret
                exact ⟨rfl, Moved.of_below (Below.refl _ _), HR.out⟩
              · have hne : (t.getD 0 == who) = false := by
                  cases t with
                  | none => simp; omega
                  | some v => simp at he ⊢; exact he
                have HNE : Aside0 ((t == some who) = false) := ⟨by simpa using he⟩
                clear he hwk
                obtain ⟨tv, htv⟩ : ∃ tv, t.getD 0 = tv := ⟨_, rfl⟩
                rw [htv] at q0 hne
                clear htv
                go_wp2
                go_round
                case rel =>
                  refine ⟨k + 1, by omega, by go_num, ⟨fun j hj => ?_⟩⟩
                  by_cases e : j = k
                  · subst e; rw [HT.out]; exact HNE.out
                  · exact HP.out j (by omega)
                case measure => simp [intOf]; omega
            · obtain rfl : k = S.length := by omega
              have hs : q = (0, S.set i { s with y := some who }) := HQ.out.2 (firstN_none HP.out)
              subst hs
              clear HQ
              go_wp2
              go_ret
              exact ⟨rfl, Moved.one _ (.inr (.inr (.inl rfl))) _, HG.out⟩
end Go.Proofs.Ytheafmjdncmpoaa
