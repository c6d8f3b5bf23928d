/-
  Learn: Hear, walked.
-/
import Derived.Test.YtheafmjdncmpoaaLrnH
namespace Go.Proofs.Ytheafmjdncmpoaa
set_option linter.unusedSimpArgs false
set_option linter.unusedVariables false
open Go.RowKit Go.Proofs.YtheafmjdncmpoaaW.PrintWords Go.Proofs.YtheafmjdncmpoaaW.PrintMore

/-- where Hear refuses -/
theorem hear_arg {w : World} {base : Nat} {F : Nat → Prop} {b : Nat} {L : Lr} {A : Option Addr} {c : Nat} {x : List Int} {k n d : Int} (h : LAt w base F b L) (hn : 1 ≤ L.nodes ∧ L.nodes ≤ 64) (hg : Given w A c x)
    (hbad : k < 1 ∨ (L.nodes : Int) < k ∨ checkB n d = false ∨ 4000 < x.length) :
    Calls Try.prog 51 #[.pointer (some ⟨b, 0, none⟩), .int .i64 k, .agg #[.int .i64 n, .int .i64 d], .slice A x.length c] w fun e w' => e = .returned (ansV (false, 2)) ∧ Below w.heap.size w w' := by
  have hxl := hg.1.1.2.1
  obtain ⟨A1, c1, q0, _⟩ := h.tail
  have hbw : b < w.heap.size := World.block_lt_of_cell? w _ q0
  have HN := Aside0.mk (fun u (hb : Below w.heap.size w u) => by
    have := none80_at b L.nodes u (pw_cell_below hb q0)
    rw [show ((L.nodes : Int) == 0) = false by simp; omega] at this
    exact this)
  have HW := hbox_below w n d A x.length c
  have HQ := hbox_cells w n d A x.length c
  unfold hbox at HW HQ
  obtain ⟨p0, p1, p2⟩ := HQ
  have HK := Aside0.mk (fun u => check_any n d u)
  have HB := Aside0.mk HW
  have HP2 := Aside0.mk p2
  clear HW p0 p1 p2 h hg
  by_cases h1 : k < 1
  · clear hbad
    go_enter Try.func51, Try.ntmps51
    go_wp2_with (go_at_call 80; (with_reducible refine (HN.out _ HB.out).mono ?_); rintro e w1 ⟨rfl, hw⟩; have hw := hw.symm; subst hw)
    exact bodyPost_ret (v := ansV (false, 2)) (by simp [results, Try.results51, go_sem, ansV]) rfl ⟨rfl, HB.out⟩
  · have h1' : 1 ≤ k := by omega
    by_cases h2 : (L.nodes : Int) < k
    · clear hbad h1
      go_enter Try.func51, Try.ntmps51
      go_wp2_with (go_at_call 80; (with_reducible refine (HN.out _ HB.out).mono ?_); rintro e w1 ⟨rfl, hw⟩; have hw := hw.symm; subst hw)
      exact bodyPost_ret (v := ansV (false, 2)) (by simp [results, Try.results51, go_sem, ansV]) rfl ⟨rfl, HB.out⟩
    · have h2' : k ≤ (L.nodes : Int) := by omega
      cases hc : checkB n d with
      | false =>
        rw [hc] at HK
        clear hbad h1 h2 hc
        go_enter Try.func51, Try.ntmps51
        go_wp2_with (first
          | (go_at_call 80; (with_reducible refine (HN.out _ HB.out).mono ?_); rintro e w1 ⟨rfl, hw⟩; have hw := hw.symm; subst hw)
          | (go_at_call 22; (with_reducible refine (HK.out _).mono ?_); rintro e u ⟨rfl, hb⟩; have HB2 := Aside0.mk (below_step HB.out hb); clear hb))
        exact bodyPost_ret (v := ansV (false, 2)) (by simp [results, Try.results51, go_sem, ansV]) rfl ⟨rfl, HB2.out⟩
      | true =>
        have h4 : (4000 : Int) < (x.length : Int) := by
          rcases hbad with e | e | e | e
          · omega
          · omega
          · rw [hc] at e; cases e
          · omega
        rw [hc] at HK
        clear hbad h1 h2 hc
        go_enter Try.func51, Try.ntmps51
        go_wp2_with (first
          | (go_at_call 80; (with_reducible refine (HN.out _ HB.out).mono ?_); rintro e w1 ⟨rfl, hw⟩; have hw := hw.symm; subst hw)
          | (go_at_call 22; (with_reducible refine (HK.out _).mono ?_); rintro e u ⟨rfl, hb⟩; have HB2 := Aside0.mk (below_step HB.out hb); have p3 := pw_cell_below hb HP2.out; clear hb))
        exact bodyPost_ret (v := ansV (false, 2)) (by simp [results, Try.results51, go_sem, ansV]) rfl ⟨rfl, HB2.out⟩
/-- what Hear's walk is over: the facts at the world with its boxes -/
structure HCtx (w W : World) (base : Nat) (F : Nat → Prop) (b i : Nat) (L : Lr) (A : Option Addr) (c : Nat) (x : List Int) (n d ln ld : Int) : Prop where
  hW : hbox w n d A x.length c = W
  h : LAt w base F b L
  hg : Given w A c x
  hn : L.nodes ≤ 64
  h1 : 1 ≤ i
  h2 : i ≤ L.nodes
  hx : x.length ≤ 4000
  hc : checkB n d = true
  hl : (L.of i).n = ln ∧ (L.of i).d = ld
theorem HCtx.wB {w W : World} {base : Nat} {F : Nat → Prop} {b i : Nat} {L : Lr} {A : Option Addr} {c : Nat} {x : List Int} {n d ln ld : Int} (H : HCtx w W base F b i L A c x n d ln ld) : Below w.heap.size w W := by
  rw [← H.hW]; exact hbox_below _ _ _ _ _ _
theorem HCtx.at {w W : World} {base : Nat} {F : Nat → Prop} {b i : Nat} {L : Lr} {A : Option Addr} {c : Nat} {x : List Int} {n d ln ld : Int} (H : HCtx w W base F b i L A c x n d ln ld) (u : World) (hb : Below W.heap.size W u) :
    u.cell? ⟨w.heap.size, 0, none⟩ = some (.int .i64 n) ∧ u.cell? ⟨w.heap.size, 1, none⟩ = some (.int .i64 d) ∧ u.cell? ⟨w.heap.size + 1, 0, none⟩ = some (.slice A x.length c) ∧ u.cell? ⟨b, i * 3, none⟩ = some (.int .i64 ln) ∧ u.cell? ⟨b, i * 3 + 1, none⟩ = some (.int .i64 ld) ∧ u.cell? ⟨b, 195, none⟩ = some (.int .i64 L.nodes) ∧ LAt u base F b L ∧ Given u A c x := by
  have hwu := below_step H.wB hb
  obtain ⟨p0, p1, p2⟩ := hbox_cells w n d A x.length c
  rw [H.hW] at p0 p1 p2
  obtain ⟨A1, c1, ⟨r0, r1, r2⟩, _⟩ := (H.h.below hwu).heard (i := i) (by have := H.h2; have := H.hn; omega)
  obtain ⟨A2, c2, t0, _⟩ := (H.h.below hwu).tail
  simp only [H.hl.1, H.hl.2] at r0 r1
  exact ⟨pw_cell_below hb p0, pw_cell_below hb p1, pw_cell_below hb p2, r0, r1, t0, H.h.below hwu, H.hg.below hwu⟩
set_option maxHeartbeats 3200000 in
set_option maxRecDepth 100000 in
/-- where a node was heard otherwise, or later -/
theorem hear_stop {w W : World} {base : Nat} {F : Nat → Prop} {b i : Nat} {L : Lr} {A : Option Addr} {c : Nat} {x : List Int} {n d ln ld : Int} (H : HCtx w W base F b i L A c x n d ln ld)
    (hs : 0 < countN (badI L n d x) L.nodes ∨ lessB ln ld n d = false) :
    Calls Try.prog 51 #[.pointer (some ⟨b, 0, none⟩), .int .i64 i, .agg #[.int .i64 n, .int .i64 d], .slice A x.length c] w fun e w' => e = .returned (ansV (false, if 0 < countN (badI L n d x) L.nodes then 12 else 0)) ∧ Below w.heap.size w w' := by
  have HH := Aside0.mk H
  have HW : Aside0 ((w.alloc (.cells #[.int .i64 n, .int .i64 d] 23)).alloc (.cells #[.slice A x.length c] 69) = W) := ⟨H.hW⟩
  have HB : Aside0 (Below W.heap.size W ((w.alloc (.cells #[.int .i64 n, .int .i64 d] 23)).alloc (.cells #[.slice A x.length c] 69))) := ⟨by rw [HW.out]; exact Below.refl _ _⟩
  have HN := Aside0.mk (fun u (hb : Below W.heap.size W u) => by
    have := none80_at b L.nodes u (H.at u hb).2.2.2.2.2.1
    rw [show ((L.nodes : Int) == 0) = false by have := H.h1; have := H.h2; simp; omega] at this
    exact this)
  have HK := Aside0.mk (fun u => check_any n d u)
  rw [H.hc] at HK
  have HALL := Aside0.mk (fun u (hb : Below W.heap.size W u) => all_any b L.nodes u H.hn (H.at u hb).2.2.2.2.2.1)
  have HBC := Aside0.mk (fun u (hb : Below W.heap.size W u) => bad_count (H.at u hb).2.2.2.2.2.2.1 H.hn w.heap.size (w.heap.size + 1) n d A c x (H.at u hb).2.2.2.2.2.2.2.1 (H.at u hb).1 (H.at u hb).2.1 (H.at u hb).2.2.1)
  have HL := Aside0.mk (fun u => less_any ln ld n d u)
  have g1 : (1 : Int) ≤ (i : Int) := by have := H.h1; omega
  have g2 : (i : Int) ≤ (L.nodes : Int) := by have := H.h2; omega
  have g3 : (i : Int) < 65 := by have := H.h2; have := H.hn; omega
  have g4 : (x.length : Int) ≤ 4000 := by have := H.hx; omega
  have g5 : (0 : Int) ≤ (i : Int) := by omega
  have hbw : b < w.heap.size := by
    obtain ⟨_, _, q, _⟩ := H.h.tail
    exact World.block_lt_of_cell? w _ q
  have HWB := Aside0.mk H.wB
  have q195 : w.cell? ⟨b, 195, none⟩ = some (.int .i64 L.nodes) := by obtain ⟨_, _, q, _⟩ := H.h.tail; exact q
  clear H
  obtain ⟨cb, hcb⟩ : ∃ cb, countN (badI L n d x) L.nodes = cb := ⟨_, rfl⟩
  rw [hcb] at HBC hs ⊢
  clear hcb
  obtain ⟨nodes, hnodes⟩ : ∃ m, L.nodes = m := ⟨_, rfl⟩
  rw [hnodes] at HBC HALL g2 q195
  have HND := Aside0.mk hnodes
  clear hnodes
  by_cases h1 : 0 < cb
  · rw [if_pos h1]
    have h1' : (0 : Int) < (cb : Int) := by omega
    clear hs h1
    go_enter Try.func51, Try.ntmps51
    go_wp2_with (first
      | (go_at_call 80; (with_reducible refine (HN.out _ HB.out).mono ?_); rintro e w1 ⟨rfl, hw⟩; have hw := hw.symm; subst hw)
      | (go_at_call 22; (with_reducible refine (HK.out _).mono ?_); rintro e u ⟨rfl, hb⟩; have HB2 := Aside0.mk (below_step HB.out hb); have p2 := (HH.out.at _ HB2.out).2.2.1; clear hb)
      | (go_at_call 82; (with_reducible refine (HALL.out _ HB2.out).mono ?_); rintro e u2 ⟨rfl, hb⟩; have HB3 := Aside0.mk (below_step HB2.out hb); clear hb)
      | (go_at_call 81; (with_reducible refine (HBC.out _ HB3.out).mono ?_); rintro e u3 ⟨rfl, hb⟩; have HB4 := Aside0.mk (below_step HB3.out hb); clear hb))
    exact bodyPost_ret (v := ansV (false, 12)) (by simp [results, Try.results51, go_sem, ansV]) rfl ⟨rfl, below_step HWB.out HB4.out⟩
  · rw [if_neg h1]
    obtain rfl : cb = 0 := by omega
    have hs' : lessB ln ld n d = false := by
      rcases hs with e | e
      · omega
      · exact e
    rw [hs'] at HL
    clear hs hs' h1
    go_enter Try.func51, Try.ntmps51
    go_wp2_with (first
      | (go_at_call 80; (with_reducible refine (HN.out _ HB.out).mono ?_); rintro e w1 ⟨rfl, hw⟩; have hw := hw.symm; subst hw)
      | (go_at_call 22; (with_reducible refine (HK.out _).mono ?_); rintro e u ⟨rfl, hb⟩; have HB2 := Aside0.mk (below_step HB.out hb); have p2 := (HH.out.at _ HB2.out).2.2.1; clear hb)
      | (go_at_call 82; (with_reducible refine (HALL.out _ HB2.out).mono ?_); rintro e u2 ⟨rfl, hb⟩; have HB3 := Aside0.mk (below_step HB2.out hb); clear hb)
      | (go_at_call 81; (with_reducible refine (HBC.out _ HB3.out).mono ?_); rintro e u3 ⟨rfl, hb⟩; have HB4 := Aside0.mk (below_step HB3.out hb); clear hb))
    have HS7 : Aside0 (∀ w' u, Below W.heap.size W w' → Below w'.heap.size w' u → (fun w' => Below W.heap.size W w' ∧ w'.cell? ⟨w.heap.size, 0, none⟩ = some (.int .i64 n) ∧ w'.cell? ⟨w.heap.size, 1, none⟩ = some (.int .i64 d) ∧ w'.cell? ⟨b, i * 3, none⟩ = some (.int .i64 ln) ∧ w'.cell? ⟨b, i * 3 + 1, none⟩ = some (.int .i64 ld)) u) := ⟨fun w' u h hb => ⟨below_step h hb, (HH.out.at _ (below_step h hb)).1, (HH.out.at _ (below_step h hb)).2.1, (HH.out.at _ (below_step h hb)).2.2.2.1, (HH.out.at _ (below_step h hb)).2.2.2.2.1⟩⟩
    go_region_held3 (fun w' => Below W.heap.size W w' ∧ w'.cell? ⟨w.heap.size, 0, none⟩ = some (.int .i64 n) ∧ w'.cell? ⟨w.heap.size, 1, none⟩ = some (.int .i64 d) ∧ w'.cell? ⟨b, i * 3, none⟩ = some (.int .i64 ln) ∧ w'.cell? ⟨b, i * 3 + 1, none⟩ = some (.int .i64 ld))
      (first | exact HS7.out _ _ HB4.out (Below.refl _ _).drew | assumption)
      (first | (go_at_call 23; refine (HL.out _).mono ?_; rintro e u ⟨rfl, hb⟩; have hk := HS7.out _ _ (And.left ‹(fun w' => Below W.heap.size W w' ∧ w'.cell? ⟨w.heap.size, 0, none⟩ = some (.int .i64 n) ∧ w'.cell? ⟨w.heap.size, 1, none⟩ = some (.int .i64 d) ∧ w'.cell? ⟨b, i * 3, none⟩ = some (.int .i64 ln) ∧ w'.cell? ⟨b, i * 3 + 1, none⟩ = some (.int .i64 ld)) _›) hb; clear hb))
    all_goals
      have HB5 := Aside0.mk hk.1
      clear hk
      go_wp2
      exact bodyPost_ret (v := ansV (false, 0)) (by simp [results, Try.results51, go_sem, ansV]) rfl ⟨rfl, below_step HWB.out HB5.out⟩
end Go.Proofs.Ytheafmjdncmpoaa
