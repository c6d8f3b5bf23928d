/-
  Learn: LearnMajority's learner and its row of ballots, in memory.
-/
import Derived.Test.YtheafmjdncmpoaaLrnQ
import Derived.Test.YtheafmjdncmpoaaLrnN
namespace Go.Proofs.Ytheafmjdncmpoaa
set_option linter.unusedSimpArgs false
set_option linter.unusedVariables false
open Go.RowKit Go.Proofs.YtheafmjdncmpoaaW.PrintWords Go.Proofs.YtheafmjdncmpoaaW.PrintMore

theorem Given.atB {w : World} {A : Option Addr} {c : Nat} {l : List Int} (h : Given w A c l) : BytesAt w A c l := h.1
theorem same_selfB {A1 A2 : Option Addr} {c1 c2 : Nat} {l : List Int} {w : World} (h1 : BytesAt w A1 c1 l) (h2 : BytesAt w A2 c2 l) : Calls Try.prog 54 #[.slice A1 l.length c1, .slice A2 l.length c2] w fun e w' => e = .returned (.bool true) ∧ Below w.heap.size w w' := by
  have := same_bytes h1 h2
  rwa [sameB_refl] at this
/-- the row of ballots at block g -/
def TopAt (w : World) (g n : Nat) (T : Nat → Int × Int) : Prop :=
  ∃ cs : Array Value, w.heap[g]? = some (.cells cs 23 (0, 0)) ∧ ∀ i, i ≤ n → cs[i * 2]? = some (.int .i64 (T i).1) ∧ cs[i * 2 + 1]? = some (.int .i64 (T i).2)
/-- the learner and the row; the blocks K are not the learner's; those but g are what they were at W1 -/
structure MJ (w W1 wr : World) (K : Nat → Prop) (b g n : Nat) (L : Lr) (T : Nat → Int × Int) : Prop where
  h : LAt wr w.heap.size (fun k => w.heap.size ≤ k ∧ ¬ K k) b L
  t : TopAt wr g n T
  hK : K g
  hlt : ∀ k, K k → k < wr.heap.size
  bx : ∀ k, K k → k ≠ g → wr.heap[k]? = W1.heap[k]?
  hg : w.heap.size ≤ g
  hb : Below w.heap.size w wr
  h1 : 1 ≤ n
  h2 : n ≤ 64
  hn : L.nodes = n
  hx : L.data.length ≤ 4000
section
variable {w W1 wr u : World} {K : Nat → Prop} {b g n : Nat} {L L' : Lr} {T T' : Nat → Int × Int}
theorem TopAt.same (h : TopAt wr g n T) (hs : u.heap[g]? = wr.heap[g]?) : TopAt u g n T := by
  obtain ⟨cs, h1, h2⟩ := h
  exact ⟨cs, hs.trans h1, h2⟩
theorem MJ.below (h : MJ w W1 wr K b g n L T) (hb : Below wr.heap.size wr u) : MJ w W1 u K b g n L T :=
  ⟨h.h.below hb, h.t.same (hb.block _ (h.hlt _ h.hK)), h.hK, fun k hk => Nat.lt_of_lt_of_le (h.hlt k hk) hb.size, fun k hk he => (hb.block _ (h.hlt k hk)).trans (h.bx k hk he), h.hg, below_step h.hb hb, h.h1, h.h2, h.hn, h.hx⟩
theorem MJ.congr (h : MJ w W1 wr K b g n L T) (ht : ∀ i, i ≤ n → T' i = T i) : MJ w W1 wr K b g n L T' := by
  obtain ⟨cs, h1, h2⟩ := h.t
  exact ⟨h.h, ⟨cs, h1, fun i hi => by rw [ht i hi]; exact h2 i hi⟩, h.hK, h.hlt, h.bx, h.hg, h.hb, h.h1, h.h2, h.hn, h.hx⟩
theorem MJ.ans (h : MJ w W1 wr K b g n L T) {v : Value} {e : Ending} (ha : LAns wr w.heap.size (fun k => w.heap.size ≤ k ∧ ¬ K k) b L' v e u) (hn : L'.nodes = L.nodes) (hx : L'.data.length ≤ 4000) : e = .returned v ∧ MJ w W1 u K b g n L' T := by
  obtain ⟨h1, h2, h3⟩ := ha
  have hle := h.hb.size
  have hs : ∀ k, K k → u.heap[k]? = wr.heap[k]? := fun k hk => h2.block k (h.hlt k hk) (fun e => e.2 hk)
  refine ⟨h1, h3.mono (fun k hk => ?_), h.t.same (hs g h.hK), h.hK, fun k hk => Nat.lt_of_lt_of_le (h.hlt k hk) h2.size, fun k hk he => (hs k hk).trans (h.bx k hk he), h.hg, h.hb.trans (h2.below (fun k hk => hk.1) hle), h.h1, h.h2, by rw [hn, h.hn], hx⟩
  rcases hk with hk | hk
  · exact hk
  · exact ⟨by omega, fun e => by have := h.hlt k e; omega⟩
theorem MJ.hear (h : MJ w W1 wr K b g n L T) {A : Option Addr} {c : Nat} {x : List Int} (k v d : Int) (hg : Given wr A c x) {q : Bool × Int} (he : hearI L k v d x = (q, L')) :
    Calls Try.prog 51 #[.pointer (some ⟨b, 0, none⟩), .int .i64 k, .agg #[.int .i64 v, .int .i64 d], .slice A x.length c] wr fun e u => e = .returned (.tuple #[.bool q.1, .int .i64 q.2]) ∧ MJ w W1 u K b g n L' T := by
  have e1 := hearI_nodes L k v d x
  have e2 := hearI_len (L := L) k v d (x := x) h.hx
  have := Hear_any (k := k) (n := v) (d := d) h.h h.hb.size ⟨by rw [h.hn]; exact h.h1, by rw [h.hn]; exact h.h2⟩ hg
  rw [he] at this e1 e2
  exact this.mono fun e u ha => h.ans ha e1 e2
theorem MJ.told (h : MJ w W1 wr K b g n L T) {A : Option Addr} {c : Nat} {x : List Int} (hg : Given wr A c x) {q : Bool × Int} (he : toldI L x = (q, L')) :
    Calls Try.prog 59 #[.pointer (some ⟨b, 0, none⟩), .slice A x.length c] wr fun e u => e = .returned (.tuple #[.bool q.1, .int .i64 q.2]) ∧ MJ w W1 u K b g n L' T := by
  have e1 := toldI_nodes L x
  have e2 := toldI_len (L := L) (x := x) h.hx
  have := told_any h.h h.hb.size (by rw [h.hn]; exact h.h1) hg
  rw [he] at this e1 e2
  exact this.mono fun e u ha => h.ans ha e1 e2
theorem MJ.decided (h : MJ w W1 wr K b g n L T) : Calls Try.prog 53 #[.pointer (some ⟨b, 0, none⟩)] wr fun e u => ∃ A c l, e = .returned (.tuple #[.slice A l.length c, .bool L.dec]) ∧ Below wr.heap.size wr u ∧ RowB u wr.heap.size (.slice A l.length c) l ∧ l = (if L.dec then L.data else []) := by
  refine (decided_any h.h (by rw [h.hn]; exact h.h1) (by have := h.hx; omega)).mono fun e u ⟨A, c, l, e1, e2, e3, e4⟩ => ⟨A, c, l, e1, e2, e3, e4⟩
theorem MJ.heard (h : MJ w W1 wr K b g n L T) {i : Nat} (h1 : 1 ≤ i) (h2 : i ≤ n) : Calls Try.prog 60 #[.pointer (some ⟨b, 0, none⟩), .int .i64 i] wr fun e u => e = .returned (.agg #[.int .i64 (pairOf L i).1, .int .i64 (pairOf L i).2]) ∧ Below wr.heap.size wr u := by
  have := heard_any h.h ⟨by rw [h.hn]; exact h.h1, by rw [h.hn]; exact h.h2⟩ (i : Int)
  have e : heardI L (i : Int) = pairOf L i := by unfold heardI pairOf; rw [if_neg (by rw [h.hn]; omega)]; simp
  rwa [e] at this
theorem MJ.cell (h : MJ w W1 wr K b g n L T) {i : Nat} (hi : i ≤ n) : wr.cell? ⟨g, i * 2, none⟩ = some (.int .i64 (T i).1) ∧ wr.cell? ⟨g, i * 2 + 1, none⟩ = some (.int .i64 (T i).2) ∧ wr.frozen? ⟨g, i * 2, none⟩ = false ∧ wr.frozen? ⟨g, i * 2 + 1, none⟩ = false := by
  obtain ⟨cs, h1, h2⟩ := h.t
  obtain ⟨k1, k2⟩ := h2 i hi
  exact ⟨by rw [cell_of_row _ g _ _ _ _ h1]; exact k1, by rw [cell_of_row _ g _ _ _ _ h1]; exact k2, frozen_of_row _ g _ _ _ h1, frozen_of_row _ g _ _ _ h1⟩
theorem MJ.store (h : MJ w W1 wr K b g n L T) (i : Nat) (v d : Int) : MJ w W1 ((wr.setCell ⟨g, i * 2, none⟩ (.int .i64 v)).setCell ⟨g, i * 2 + 1, none⟩ (.int .i64 d)) K b g n L (fun j => if j = i then (v, d) else T j) := by
  have hs : ∀ k, k ≠ g → ((wr.setCell ⟨g, i * 2, none⟩ (.int .i64 v)).setCell ⟨g, i * 2 + 1, none⟩ (.int .i64 d)).heap[k]? = wr.heap[k]? := fun k hk => by
    rw [Below.heap_setCell _ ⟨g, i * 2 + 1, none⟩ _ k (fun e => hk (by rw [e])), Below.heap_setCell _ ⟨g, i * 2, none⟩ _ k (fun e => hk (by rw [e]))]
  obtain ⟨cs, h1, h2⟩ := h.t
  have k1 := heap_setCell_same _ g (i * 2) _ _ (.int .i64 v) h1
  have k2 := heap_setCell_same _ g (i * 2 + 1) _ _ (.int .i64 d) k1
  refine ⟨h.h.move fun k hk _ => hs k (fun e => hk.2 (e ▸ h.hK)), ⟨_, k2, fun j hj => ?_⟩, h.hK, fun k hk => by simpa using h.hlt k hk, fun k hk he => (hs k he).trans (h.bx k hk he), h.hg, (h.hb.setCell h.hg _).setCell h.hg _, h.h1, h.h2, h.hn, h.hx⟩
  obtain ⟨q1, q2⟩ := h2 j hj
  have l1 := (Array.getElem?_eq_some_iff.1 q1).1
  have l2 := (Array.getElem?_eq_some_iff.1 q2).1
  simp only
  by_cases e : j = i
  · subst e
    rw [if_pos rfl]
    refine ⟨?_, ?_⟩
    · rw [Array.getElem?_setIfInBounds_ne (by omega), Array.getElem?_setIfInBounds_self_of_lt l1]
    · rw [Array.getElem?_setIfInBounds_self_of_lt (by simpa using l2)]
  · rw [if_neg e]
    refine ⟨?_, ?_⟩
    · rw [Array.getElem?_setIfInBounds_ne (by omega), Array.getElem?_setIfInBounds_ne (by omega)]; exact q1
    · rw [Array.getElem?_setIfInBounds_ne (by omega), Array.getElem?_setIfInBounds_ne (by omega)]; exact q2
/-- the blocks between lo and hi are not the learner's -/
def Kept (g lo hi k : Nat) : Prop := k = g ∨ (lo ≤ k ∧ k < hi)
theorem MJ.box (h : MJ w W1 wr (fun k => k = g) b g n L T) (hb : Below wr.heap.size wr u) : MJ w u u (Kept g wr.heap.size u.heap.size) b g n L T := by
  have hgl := h.hlt g rfl
  refine ⟨?_, h.t.same (hb.block _ hgl), .inl rfl, ?_, fun k _ _ => rfl, h.hg, below_step h.hb hb, h.h1, h.h2, h.hn, h.hx⟩
  · obtain ⟨cs, vs, vd, k1, k2, k3, k4, k5, k6, k7, k8, k9⟩ := h.h
    have hbnd : ∀ {v' xs}, kB.R 5 wr w.heap.size (fun k => w.heap.size ≤ k ∧ ¬ k = g) v' xs → kB.R 5 u w.heap.size (fun k => w.heap.size ≤ k ∧ ¬ Kept g wr.heap.size u.heap.size k) v' xs := fun hR => by
      refine Kd.R_mono (Kd.R_below (Kd.R_bound hR) hb) fun k hk => ⟨hk.1.1, ?_⟩
      have := hk.2.2.1
      have := hk.1.2
      unfold Kept
      omega
    have hbl := (Array.getElem?_eq_some_iff.1 k3).1
    exact ⟨cs, vs, vd, ⟨k1.1, by have := k1.2; unfold Kept; omega⟩, k2, (hb.block _ hbl).trans k3, k4, fun i hi => ⟨(k5 i hi).1, (k5 i hi).2.1, (k5 i hi).2.2.1, hbnd (k5 i hi).2.2.2⟩, k6, k7, k8, hbnd k9⟩
  · rintro k (rfl | hk)
    · exact Nat.lt_of_lt_of_le hgl hb.size
    · exact hk.2
theorem MJ.unbox {lo hi : Nat} (h : MJ w W1 wr (Kept g lo hi) b g n L T) : MJ w w wr (fun k => k = g) b g n L T :=
  ⟨h.h.mono fun k hk => ⟨hk.1, fun e => hk.2 (.inl e)⟩, h.t, rfl, fun k hk => h.hlt k (.inl hk), fun k hk he => absurd hk he, h.hg, h.hb, h.h1, h.h2, h.hn, h.hx⟩
/-- the data that was decided before -/
theorem MJ.was {lo hi bs : Nat} {A : Option Addr} {c : Nat} {l : List Int} (h : MJ w W1 wr (Kept g lo hi) b g n L T) (hr : RowB W1 bs (.slice A l.length c) l) (h1 : lo ≤ bs) (h2 : W1.heap.size ≤ hi) (h3 : g < lo) : Given wr A c l := by
  obtain ⟨A1, c1, e, hg⟩ := given_of_R (Kd.R_step (w1 := wr) (Kd.R_bound hr.1) (fun k hk hlt => h.bx k (.inr ⟨Nat.le_trans h1 hk.2.1, by omega⟩) (by have := hk.2.1; omega)))
  injection e with e1 e2 e3
  subst e1
  subst e3
  exact hg
/-- the word's box -/
def Boxed (w : World) (g : Nat) (t : Bool) (k v d : Int) (A : Option Addr) (l c : Nat) : Prop := w.heap[g]? = some (.cells #[.bool t, .int .i64 k, .int .i64 v, .int .i64 d, .slice A l c] 86 (0, 0))
theorem MJ.boxed {wb hi : Nat} {t : Bool} {k v d : Int} {A : Option Addr} {l c : Nat} (h : MJ w W1 wr (Kept g wb hi) b g n L T) (hne : g < wb) (hlt : wb < hi) (hB : Boxed W1 wb t k v d A l c) :
    wr.cell? ⟨wb, 0, none⟩ = some (.bool t) ∧ wr.cell? ⟨wb, 1, none⟩ = some (.int .i64 k) ∧ wr.cell? ⟨wb, 2, none⟩ = some (.int .i64 v) ∧ wr.cell? ⟨wb, 3, none⟩ = some (.int .i64 d) ∧ wr.cell? ⟨wb, 4, none⟩ = some (.slice A l c) := by
  have hx := (h.bx wb (.inr ⟨Nat.le_refl _, hlt⟩) (by omega)).trans hB
  exact ⟨by rw [cell_of_row _ wb 0 _ _ _ hx]; rfl, by rw [cell_of_row _ wb 1 _ _ _ hx]; rfl, by rw [cell_of_row _ wb 2 _ _ _ hx]; rfl, by rw [cell_of_row _ wb 3 _ _ _ hx]; rfl, by rw [cell_of_row _ wb 4 _ _ _ hx]; rfl⟩
end
theorem mj_start {w u w1 : World} {b n : Nat} {v1 : Value} {z : PLearnScript.S23} (hz : z = ⟨0, 0⟩) (hO : PLearnScript.k23.R 23 w1 w.heap.size (fun k => u.heap.size ≤ k) v1 (List.replicate ((n : Int) + 1).toNat z)) (hG : u.grownBy w1 none)
    (hL : LB w u b ⟨n, fun _ => hd0, false, []⟩) (hB : Below w.heap.size w w1) :
    ∃ g c, v1 = .slice (some ⟨g, 0, none⟩) (n + 1) c ∧ MJ w w w1 (fun k => k = g) b g n ⟨n, fun _ => hd0, false, []⟩ (fun _ => (0, 0)) := by
  rw [show ((n : Int) + 1).toNat = n + 1 by omega] at hO
  obtain ⟨A, cA, eA, _, hC⟩ := Kd.R_reads hO
  obtain ⟨h0, inner, ho, hr⟩ := hO
  rcases ho.2 with ⟨rfl, hzz⟩ | ⟨g, cap, cur, rfl, hg, hcur, hcap, hm, hsz, htk⟩
  · simp at hzz
  · have hug : u.heap.size ≤ g := h0 g rfl
    refine ⟨g, cap, by simp, ?_, ⟨cur, hcur, fun i hi => ?_⟩, rfl, ?_, fun k hk he => absurd hk he, by have := hL.hb.size; omega, hB, hL.h1, hL.h2, rfl, by simp⟩
    · obtain ⟨cs, vs, vd, k1, k2, k3, k4, k5, k6, k7, k8, k9⟩ := hL.h
      have hbnd : ∀ {v' xs}, kB.R 5 u w.heap.size (fun k => w.heap.size ≤ k) v' xs → kB.R 5 w1 w.heap.size (fun k => w.heap.size ≤ k ∧ ¬ k = g) v' xs := fun hR => by
        refine Kd.R_mono (Kd.R_grown (Kd.R_bound hR) hG (fun k _ => by simp)) fun k hk => ⟨hk.1, ?_⟩
        have := hk.2.2.1
        omega
      have hbu := (Array.getElem?_eq_some_iff.1 k3).1
      exact ⟨cs, vs, vd, ⟨k1, by omega⟩, k2, by rw [hG.block b hbu (by simp)]; exact k3, k4, fun i hi => ⟨(k5 i hi).1, (k5 i hi).2.1, (k5 i hi).2.2.1, hbnd (k5 i hi).2.2.2⟩, k6, k7, k8, hbnd k9⟩
    · simp only [List.length_replicate, Value.slice.injEq] at eA
      obtain ⟨rfl, _, _⟩ := eA
      obtain ⟨ad, e1, q1, q2⟩ := PLearnScript.at_T23 hC (i : Int) (by omega) (by simp; omega)
      obtain rfl := Option.some.inj e1
      have hz0 : PLearnScript.rd_T23 (List.replicate (n + 1) z) (i : Int) = ⟨0, 0⟩ := by
        unfold PLearnScript.rd_T23
        rw [List.getD_eq_getElem?_getD, List.getElem?_replicate, if_pos (by simp; omega), ← hz]; rfl
      rw [hz0] at q1 q2
      rw [add_plain, cell_of_row _ g _ _ _ _ hcur, Int.toNat_natCast] at q1
      have e2 : (⟨((⟨g, 0, none⟩ : Addr).add ((i : Int).toNat * 2)).block, ((⟨g, 0, none⟩ : Addr).add ((i : Int).toNat * 2)).off + 1, none⟩ : Addr) = ⟨g, i * 2 + 1, none⟩ := by rw [add_plain]; simp
      exact ⟨q1, by rw [e2, cell_of_row _ g _ _ _ _ hcur] at q2; exact q2⟩
    · rintro k rfl
      exact (Array.getElem?_eq_some_iff.1 hcur).1
end Go.Proofs.Ytheafmjdncmpoaa
