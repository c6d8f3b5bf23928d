/-
  Learn: decide, Decided, Heard, Told.
-/
import Derived.Test.YtheafmjdncmpoaaLrnL
import Derived.Test.YtheafmjdncmpoaaQuoL
namespace Go.Proofs.Ytheafmjdncmpoaa
set_option linter.unusedSimpArgs false
set_option linter.unusedVariables false
open Go.RowKit Go.Proofs.YtheafmjdncmpoaaW.PrintWords Go.Proofs.YtheafmjdncmpoaaW.PrintMore

theorem kB_ne : ∀ q, q ∈ 5 :: kB.E → q ≠ 93 := by
  intro q hq
  have h : q ∈ [5] := hq
  simp at h
  omega
section
variable {w u : World} {base : Nat} {F : Nat → Prop} {b : Nat} {L : Lr}
/-- a decision noted -/
theorem LAt.setDec (h : LAt w base F b L) {v : Value} {x : List Int} (hv : kB.R 5 w base F v x) :
    LAt ((w.setCell ⟨b, 196, none⟩ (.bool true)).setCell ⟨b, 197, none⟩ v) base F b { L with dec := true, data := x } := by
  obtain ⟨cs, vs, vd, h1, h2, h3, h4, h5, h6, h7, h8, h9⟩ := h
  have k1 := heap_setCell_same _ b 196 _ _ (.bool true) h3
  have k2 := heap_setCell_same _ b 197 _ _ v k1
  have hR : ∀ {v' xs}, kB.R 5 w base F v' xs → kB.R 5 ((w.setCell ⟨b, 196, none⟩ (.bool true)).setCell ⟨b, 197, none⟩ v) base F v' xs := fun hr => Kd.R_set (Kd.R_set hr h3 kB_ne _ _) k1 kB_ne _ _
  have hne : ∀ j, j ≠ 196 → j ≠ 197 → ((cs.setIfInBounds 196 (.bool true)).setIfInBounds 197 v)[j]? = cs[j]? := fun j a1 a2 => by
    rw [Array.getElem?_setIfInBounds_ne (by omega), Array.getElem?_setIfInBounds_ne (by omega)]
  refine ⟨_, vs, v, h1, h2, k2, by rw [Array.size_setIfInBounds, Array.size_setIfInBounds, h4], fun i hi => ?_, by rw [hne _ (by omega) (by omega)]; exact h6, ?_, ?_, hR hv⟩
  · obtain ⟨a1, a2, a3, a4⟩ := h5 i hi
    exact ⟨by rw [hne _ (by omega) (by omega)]; exact a1, by rw [hne _ (by omega) (by omega)]; exact a2, by rw [hne _ (by omega) (by omega)]; exact a3, hR a4⟩
  · rw [Array.getElem?_setIfInBounds_ne (by omega), Array.getElem?_setIfInBounds_self_of_lt (by omega)]
  · rw [Array.getElem?_setIfInBounds_self_of_lt (by rw [Array.size_setIfInBounds]; omega)]
/-- what was heard of a node, noted -/
def Lr.set (L : Lr) (k : Nat) (h : Hd) : Lr := { L with of := fun i => if i = k then h else L.of i }
theorem LAt.setHd (h : LAt w base F b L) {k : Nat} (hk : k ≤ 64) {v : Value} {hd : Hd} (hv : kB.R 5 w base F v hd.x) :
    LAt (((w.setCell ⟨b, k * 3, none⟩ (.int .i64 hd.n)).setCell ⟨b, k * 3 + 1, none⟩ (.int .i64 hd.d)).setCell ⟨b, k * 3 + 2, none⟩ v) base F b (L.set k hd) := by
  obtain ⟨cs, vs, vd, h1, h2, h3, h4, h5, h6, h7, h8, h9⟩ := h
  have k1 := heap_setCell_same _ b (k * 3) _ _ (.int .i64 hd.n) h3
  have k2 := heap_setCell_same _ b (k * 3 + 1) _ _ (.int .i64 hd.d) k1
  have k3 := heap_setCell_same _ b (k * 3 + 2) _ _ v k2
  have hR : ∀ {v' xs}, kB.R 5 w base F v' xs → kB.R 5 (((w.setCell ⟨b, k * 3, none⟩ (.int .i64 hd.n)).setCell ⟨b, k * 3 + 1, none⟩ (.int .i64 hd.d)).setCell ⟨b, k * 3 + 2, none⟩ v) base F v' xs := fun hr => Kd.R_set (Kd.R_set (Kd.R_set hr h3 kB_ne _ _) k1 kB_ne _ _) k2 kB_ne _ _
  have hne : ∀ j, j ≠ k * 3 → j ≠ k * 3 + 1 → j ≠ k * 3 + 2 → (((cs.setIfInBounds (k * 3) (.int .i64 hd.n)).setIfInBounds (k * 3 + 1) (.int .i64 hd.d)).setIfInBounds (k * 3 + 2) v)[j]? = cs[j]? := fun j a1 a2 a3 => by
    rw [Array.getElem?_setIfInBounds_ne (by omega), Array.getElem?_setIfInBounds_ne (by omega), Array.getElem?_setIfInBounds_ne (by omega)]
  refine ⟨_, fun i => if i = k then v else vs i, vd, h1, h2, k3, by rw [Array.size_setIfInBounds, Array.size_setIfInBounds, Array.size_setIfInBounds, h4], fun i hi => ?_, by rw [hne _ (by omega) (by omega) (by omega)]; exact h6, by rw [hne _ (by omega) (by omega) (by omega)]; exact h7, by rw [hne _ (by omega) (by omega) (by omega)]; exact h8, hR h9⟩
  by_cases e : i = k
  · subst e
    have e1 : (L.set i hd).of i = hd := by simp [Lr.set]
    rw [e1]
    simp only [if_pos rfl]
    refine ⟨?_, ?_, ?_, hR hv⟩
    · rw [Array.getElem?_setIfInBounds_ne (by omega), Array.getElem?_setIfInBounds_ne (by omega), Array.getElem?_setIfInBounds_self_of_lt (by omega)]
    · rw [Array.getElem?_setIfInBounds_ne (by omega), Array.getElem?_setIfInBounds_self_of_lt (by rw [Array.size_setIfInBounds]; omega)]
    · rw [Array.getElem?_setIfInBounds_self_of_lt (by rw [Array.size_setIfInBounds, Array.size_setIfInBounds]; omega)]
      simp
  · have e1 : (L.set k hd).of i = L.of i := by simp [Lr.set, e]
    rw [e1]
    obtain ⟨a1, a2, a3, a4⟩ := h5 i hi
    simp only [if_neg e]
    exact ⟨by rw [hne _ (by omega) (by omega) (by omega)]; exact a1, by rw [hne _ (by omega) (by omega) (by omega)]; exact a2, by rw [hne _ (by omega) (by omega) (by omega)]; exact a3, hR a4⟩
end
theorem LAt.frozen {w : World} {base : Nat} {F : Nat → Prop} {b : Nat} {L : Lr} (h : LAt w base F b L) (j : Nat) : w.frozen? ⟨b, j, none⟩ = false := by
  obtain ⟨cs, vs, vd, h1, h2, h3, _⟩ := h
  exact frozen_of_row _ b j _ _ h3
/-- the learner behind a call -/
def LAns (w : World) (base : Nat) (F : Nat → Prop) (b : Nat) (L : Lr) (v : Value) (e : Ending) (w' : World) : Prop :=
  e = .returned v ∧ Moved F w w' ∧ LAt w' base (fun k => F k ∨ w.heap.size ≤ k) b L
theorem row_new {w w1 : World} {base : Nat} {F : Nat → Prop} {v : Value} {x : List Int} (h : RowB w1 w.heap.size v x) (hbase : base ≤ w.heap.size) : kB.R 5 w1 base (fun k => F k ∨ w.heap.size ≤ k) v x :=
  Kd.R_lower (Kd.R_mono (Kd.R_bound h.1) (fun k hk => .inr hk.2.1)) hbase
set_option maxHeartbeats 1600000 in
set_option maxRecDepth 100000 in
theorem decide_new {w : World} {base : Nat} {F : Nat → Prop} {b : Nat} {L : Lr} {A : Option Addr} {c : Nat} {x : List Int} (h : LAt w base F b L) (hbase : base ≤ w.heap.size) (hg : Given w A c x) (hx : x.length ≤ 100000) (hd : L.dec = false) :
    Calls Try.prog 88 #[.pointer (some ⟨b, 0, none⟩), .slice A x.length c] w (LAns w base F b { L with dec := true, data := x } (.bool true)) := by
  obtain ⟨A1, c1, q0, q1, q2, _⟩ := h.tail
  rw [hd] at q1
  have HC := Aside0.mk (Clone_any hg hx)
  have H := Aside0.mk h
  have HF : Aside0 (F b ∧ b < w.heap.size) := ⟨by obtain ⟨cs, vs, vd, h1, h2, h3, _⟩ := h; exact ⟨h1, (Array.getElem?_eq_some_iff.1 h3).1⟩⟩
  clear h hg hd
  go_enter Try.func88, Try.ntmps88
  go_wp2_with (go_at_call 86; (with_reducible refine HC.out.mono ?_); rintro e u ⟨A2, c2, rfl, hb, hr⟩; have HB := Aside0.mk hb; have HR := Aside0.mk hr; have p0 := pw_cell_below hb q1; have p1 := pw_cell_below hb q2; have z0 := Nat.lt_of_lt_of_le HF.out.2 hb.size; have f0 := (H.out.below hb).frozen 196; have f1 := (H.out.below hb).frozen 197; clear hb hr)
  go_ret
  refine ⟨rfl, ((Moved.of_below HB.out).set _ HF.out.1 _).set _ HF.out.1 _, ?_⟩
  exact ((H.out.below HB.out).mono fun k hk => .inl hk).setDec (row_new HR.out hbase)
theorem decide_old {w : World} {base : Nat} {F : Nat → Prop} {b : Nat} {L : Lr} {A : Option Addr} {c : Nat} {x : List Int} (h : LAt w base F b L) (hd : L.dec = true) :
    Calls Try.prog 88 #[.pointer (some ⟨b, 0, none⟩), .slice A x.length c] w (LAns w base F b L (.bool false)) := by
  obtain ⟨A1, c1, q0, q1, q2, _⟩ := h.tail
  rw [hd] at q1
  have H := Aside0.mk h
  clear h hd
  go_enter Try.func88, Try.ntmps88
  go_wp2
  go_ret
  exact ⟨rfl, Moved.of_below (Below.refl _ _), H.out.mono fun k hk => .inl hk⟩
/-- what decide does -/
def decideI (L : Lr) (x : List Int) : Bool × Lr := if L.dec then (false, L) else (true, { L with dec := true, data := x })
theorem Decide_any {w : World} {base : Nat} {F : Nat → Prop} {b : Nat} {L : Lr} {A : Option Addr} {c : Nat} {x : List Int} (h : LAt w base F b L) (hbase : base ≤ w.heap.size) (hg : Given w A c x) (hx : x.length ≤ 100000) :
    Calls Try.prog 88 #[.pointer (some ⟨b, 0, none⟩), .slice A x.length c] w (LAns w base F b (decideI L x).2 (.bool (decideI L x).1)) := by
  unfold decideI
  cases hd : L.dec with
  | true => simpa [hd] using decide_old (c := c) (A := A) (x := x) h hd
  | false => simpa [hd] using decide_new h hbase hg hx hd
/-- what Decided tells -/
def DTold (w : World) (L : Lr) (e : Ending) (w' : World) : Prop :=
  ∃ A c l, e = .returned (.tuple #[.slice A l.length c, .bool L.dec]) ∧ Below w.heap.size w w' ∧ RowB w' w.heap.size (.slice A l.length c) l ∧ l = (if L.dec then L.data else [])
set_option maxHeartbeats 1600000 in
theorem decided_any {w : World} {base : Nat} {F : Nat → Prop} {b : Nat} {L : Lr} (h : LAt w base F b L) (hn : 1 ≤ L.nodes) (hx : L.data.length ≤ 100000) :
    Calls Try.prog 53 #[.pointer (some ⟨b, 0, none⟩)] w (DTold w L) := by
  obtain ⟨A1, c1, q0, q1, q2, hg⟩ := h.tail
  have HN := none80_at b L.nodes w q0
  rw [show ((L.nodes : Int) == 0) = false by simp; omega] at HN
  have HN := Aside0.mk HN
  cases hd : L.dec with
  | false =>
    rw [hd] at q1
    have HD := Aside0.mk hd
    clear h hg hd
    go_enter Try.func53, Try.ntmps53
    go_wp2_with (go_at_call 80; (with_reducible refine HN.out.mono ?_); rintro e w1 ⟨rfl, hw⟩; have hw := hw.symm; subst hw)
    refine bodyPost_ret (v := .tuple #[.slice none 0 0, .bool false]) (by simp [results, Try.results53, go_sem]) rfl ⟨none, 0, [], ?_, Below.refl _ _, RowB.nil _ _, ?_⟩
    · rw [HD.out]; rfl
    · rw [HD.out]; rfl
  | true =>
    rw [hd] at q1
    have HD := Aside0.mk hd
    have HC := Aside0.mk (Clone_any hg hx)
    clear h hg hd
    go_enter Try.func53, Try.ntmps53
    go_wp2_with (first
      | (go_at_call 80; (with_reducible refine HN.out.mono ?_); rintro e w1 ⟨rfl, hw⟩; have hw := hw.symm; subst hw)
      | (go_at_call 86; (with_reducible refine HC.out.mono ?_); rintro e u ⟨A2, c2, rfl, hb, hr⟩; have HB := Aside0.mk hb; have HR := Aside0.mk hr; clear hb hr))
    refine bodyPost_ret (v := .tuple #[.slice A2 L.data.length c2, .bool true]) (by simp [results, Try.results53, go_sem]) rfl ⟨A2, c2, L.data, ?_, HB.out, HR.out, ?_⟩
    · rw [HD.out]
    · rw [HD.out]; rfl
end Go.Proofs.Ytheafmjdncmpoaa
