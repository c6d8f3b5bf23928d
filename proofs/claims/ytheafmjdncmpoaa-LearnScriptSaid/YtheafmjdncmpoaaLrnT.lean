/-
  Learn: Told.
-/
import Derived.Test.YtheafmjdncmpoaaLrnE
namespace Go.Proofs.Ytheafmjdncmpoaa
set_option linter.unusedSimpArgs false
set_option linter.unusedVariables false
open Go.RowKit Go.Proofs.YtheafmjdncmpoaaW.PrintWords Go.Proofs.YtheafmjdncmpoaaW.PrintMore

/-- what Told answers, and the learner behind it -/
def toldI (L : Lr) (x : List Int) : (Bool × Int) × Lr :=
  if 4000 < x.length then ((false, 2), L) else if L.dec = true ∧ sameB L.data x = false then ((false, 12), L) else (((decideI L x).1, 0), (decideI L x).2)
def ansV (q : Bool × Int) : Value := .tuple #[.bool q.1, .int .i64 q.2]
set_option maxHeartbeats 1600000 in
set_option maxRecDepth 100000 in
theorem told_any {w : World} {base : Nat} {F : Nat → Prop} {b : Nat} {L : Lr} {A : Option Addr} {c : Nat} {x : List Int} (h : LAt w base F b L) (hbase : base ≤ w.heap.size) (hn : 1 ≤ L.nodes) (hg : Given w A c x) :
    Calls Try.prog 59 #[.pointer (some ⟨b, 0, none⟩), .slice A x.length c] w (LAns w base F b (toldI L x).2 (ansV (toldI L x).1)) := by
  have hxl := hg.1.1.2.1
  obtain ⟨A1, c1, q0, q1, q2, hg1⟩ := h.tail
  have HN := none80_at b L.nodes w q0
  rw [show ((L.nodes : Int) == 0) = false by simp; omega] at HN
  have HN := Aside0.mk HN
  have H := Aside0.mk h
  have HNO : Aside0 (∀ u, Below w.heap.size w u → LAt u base (fun k => F k ∨ w.heap.size ≤ k) b L) := ⟨fun u hb => (h.below hb).mono fun k hk => .inl hk⟩
  have HU := Aside0.mk (fun u (hb : Below w.heap.size w u) => unlike_any (hg1.1.below hb) (hg.1.below hb))
  have HDC : Aside0 (x.length ≤ 4000 → ∀ u, Below w.heap.size w u → Calls Try.prog 88 #[.pointer (some ⟨b, 0, none⟩), .slice A x.length c] u (LAns u base F b (decideI L x).2 (.bool (decideI L x).1))) :=
    ⟨fun hx u hb => Decide_any (h.below hb) (Nat.le_trans hbase hb.size) (hg.below hb) (by omega)⟩
  by_cases h1 : 4000 < x.length
  · have e : toldI L x = ((false, 2), L) := by unfold toldI; rw [if_pos h1]
    rw [e]
    clear e h hg hg1 HDC
    have h1' : (4000 : Int) < (x.length : Int) := by omega
    go_enter Try.func59, Try.ntmps59
    go_wp2_with (go_at_call 80; (with_reducible refine HN.out.mono ?_); rintro e w1 ⟨rfl, hw⟩; have hw := hw.symm; subst hw)
    exact bodyPost_ret (v := ansV (false, 2)) (by simp [results, Try.results59, go_sem, ansV]) rfl ⟨rfl, Moved.of_below (Below.refl _ _), HNO.out _ (Below.refl _ _)⟩
  · have h1' : (x.length : Int) ≤ 4000 := by omega
    have HDC := Aside0.mk (HDC.out (by omega))
    cases hd : L.dec with
    | true =>
      rw [hd] at q1
      cases hs : sameB L.data x with
      | false =>
        have e : toldI L x = ((false, 12), L) := by unfold toldI; rw [if_neg h1, if_pos ⟨hd, hs⟩]
        rw [e]
        rw [hs] at HU
        clear e h hg hg1 HDC hs hd h1
        go_enter Try.func59, Try.ntmps59
        go_wp2_with (first
          | (go_at_call 80; (with_reducible refine HN.out.mono ?_); rintro e w1 ⟨rfl, hw⟩; have hw := hw.symm; subst hw)
          | (go_at_call 84; (with_reducible refine (HU.out _ (Below.refl _ _)).mono ?_); rintro e u ⟨rfl, hb⟩; have HB := Aside0.mk hb; clear hb))
        exact bodyPost_ret (v := ansV (false, 12)) (by simp [results, Try.results59, go_sem, ansV]) rfl ⟨rfl, Moved.of_below HB.out, HNO.out _ HB.out⟩
      | true =>
        have e : toldI L x = (((decideI L x).1, 0), (decideI L x).2) := by unfold toldI; rw [if_neg h1, if_neg (by rintro ⟨_, k⟩; rw [hs] at k; cases k)]
        rw [e]
        rw [hs] at HU
        obtain ⟨⟨r, L'⟩, hr⟩ : ∃ q, decideI L x = q := ⟨_, rfl⟩
        rw [hr] at HDC ⊢
        clear e h hg hg1 hs hd h1 hr
        go_enter Try.func59, Try.ntmps59
        go_wp2_with (first
          | (go_at_call 80; (with_reducible refine HN.out.mono ?_); rintro e w1 ⟨rfl, hw⟩; have hw := hw.symm; subst hw)
          | (go_at_call 84; (with_reducible refine (HU.out _ (Below.refl _ _)).mono ?_); rintro e u ⟨rfl, hb⟩; have HB := Aside0.mk hb; clear hb)
          | (go_at_call 88; (with_reducible refine (HDC.out _ HB.out).mono ?_); rintro e u2 ⟨rfl, hm, hl⟩; have HM := Aside0.mk hm; have HL := Aside0.mk hl; clear hm hl))
        exact bodyPost_ret (v := ansV (r, 0)) (by simp [results, Try.results59, go_sem, ansV]) rfl ⟨rfl, (Moved.of_below HB.out).trans HM.out, HL.out.mono fun k hk => hk.imp id fun hk => Nat.le_trans HB.out.size hk⟩
    | false =>
      rw [hd] at q1
      have e : toldI L x = (((decideI L x).1, 0), (decideI L x).2) := by unfold toldI; rw [if_neg h1, if_neg (by rintro ⟨k, _⟩; rw [hd] at k; cases k)]
      rw [e]
      obtain ⟨⟨r, L'⟩, hr⟩ : ∃ q, decideI L x = q := ⟨_, rfl⟩
      rw [hr] at HDC ⊢
      clear e h hg hg1 hd h1 hr
      go_enter Try.func59, Try.ntmps59
      go_wp2_with (first
        | (go_at_call 80; (with_reducible refine HN.out.mono ?_); rintro e w1 ⟨rfl, hw⟩; have hw := hw.symm; subst hw)
        | (go_at_call 88; (with_reducible refine (HDC.out _ (Below.refl _ _)).mono ?_); rintro e u2 ⟨rfl, hm, hl⟩; have HM := Aside0.mk hm; have HL := Aside0.mk hl; clear hm hl))
      exact bodyPost_ret (v := ansV (r, 0)) (by simp [results, Try.results59, go_sem, ansV]) rfl ⟨rfl, HM.out, HL.out⟩
end Go.Proofs.Ytheafmjdncmpoaa
