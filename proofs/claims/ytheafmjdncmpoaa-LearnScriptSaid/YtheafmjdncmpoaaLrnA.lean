/-
  Learn: a law's learner; the law's hear, three, awake.
-/
import Derived.Test.YtheafmjdncmpoaaLrnX
namespace Go.Proofs.Ytheafmjdncmpoaa
set_option linter.unusedSimpArgs false
set_option linter.unusedVariables false
open Go.RowKit Go.Proofs.YtheafmjdncmpoaaW.PrintWords Go.Proofs.YtheafmjdncmpoaaW.PrintMore

/-- a law's learner, made since w -/
structure LB (w wr : World) (b : Nat) (L : Lr) : Prop where
  h : LAt wr w.heap.size (fun k => w.heap.size ≤ k) b L
  hb : Below w.heap.size w wr
  h1 : 1 ≤ L.nodes
  h2 : L.nodes ≤ 64
  hx : L.data.length ≤ 4000
theorem LB.below {w wr u : World} {b : Nat} {L : Lr} (h : LB w wr b L) (hb : Below wr.heap.size wr u) : LB w u b L := ⟨h.h.below hb, below_step h.hb hb, h.h1, h.h2, h.hx⟩
theorem LB.ans {w wr u : World} {b : Nat} {L L' : Lr} {v : Value} {e : Ending} (h : LB w wr b L) (ha : LAns wr w.heap.size (fun k => w.heap.size ≤ k) b L' v e u) (hn : L'.nodes = L.nodes) (hx : L'.data.length ≤ 4000) : e = .returned v ∧ LB w u b L' := by
  obtain ⟨h1, h2, h3⟩ := ha
  refine ⟨h1, h3.mono (fun k hk => ?_), h.hb.trans (h2.below (fun k hk => hk) h.hb.size), by rw [hn]; exact h.h1, by rw [hn]; exact h.h2, hx⟩
  rcases hk with hk | hk
  · exact hk
  · exact Nat.le_trans h.hb.size hk
theorem decideI_nodes (L : Lr) (x : List Int) : (decideI L x).2.nodes = L.nodes := by unfold decideI; split <;> rfl
theorem decideI_len {L : Lr} {x : List Int} (h : L.data.length ≤ 4000) (hx : x.length ≤ 4000) : (decideI L x).2.data.length ≤ 4000 := by unfold decideI; split <;> assumption
theorem hearI_nodes (L : Lr) (k n d : Int) (x : List Int) : (hearI L k n d x).2.nodes = L.nodes := by
  unfold hearI
  split
  · rfl
  · split
    · rfl
    · split
      · rfl
      · split
        · rfl
        · exact decideI_nodes _ _
theorem hearI_len {L : Lr} (k n d : Int) {x : List Int} (h : L.data.length ≤ 4000) : (hearI L k n d x).2.data.length ≤ 4000 := by
  unfold hearI
  split
  · exact h
  · split
    · exact h
    · split
      · exact h
      · split
        · exact h
        · exact decideI_len h (by omega)
theorem toldI_nodes (L : Lr) (x : List Int) : (toldI L x).2.nodes = L.nodes := by
  unfold toldI
  split
  · rfl
  · split
    · rfl
    · exact decideI_nodes _ _
theorem toldI_len {L : Lr} {x : List Int} (h : L.data.length ≤ 4000) : (toldI L x).2.data.length ≤ 4000 := by
  unfold toldI
  split
  · exact h
  · split
    · exact h
    · exact decideI_len h (by omega)
theorem LB.hear {w wr : World} {b : Nat} {L : Lr} (h : LB w wr b L) {A : Option Addr} {c : Nat} {x : List Int} (k n d : Int) (hg : Given wr A c x) :
    Calls Try.prog 51 #[.pointer (some ⟨b, 0, none⟩), .int .i64 k, .agg #[.int .i64 n, .int .i64 d], .slice A x.length c] wr fun e u => e = .returned (ansV (hearI L k n d x).1) ∧ LB w u b (hearI L k n d x).2 :=
  (Hear_any h.h h.hb.size ⟨h.h1, h.h2⟩ hg).mono fun e u ha => h.ans ha (hearI_nodes _ _ _ _ _) (hearI_len _ _ _ h.hx)
theorem LB.told {w wr : World} {b : Nat} {L : Lr} (h : LB w wr b L) {A : Option Addr} {c : Nat} {x : List Int} (hg : Given wr A c x) :
    Calls Try.prog 59 #[.pointer (some ⟨b, 0, none⟩), .slice A x.length c] wr fun e u => e = .returned (ansV (toldI L x).1) ∧ LB w u b (toldI L x).2 :=
  (told_any h.h h.hb.size h.h1 hg).mono fun e u ha => h.ans ha (toldI_nodes _ _) (toldI_len h.hx)
theorem LB.decided {w wr : World} {b : Nat} {L : Lr} (h : LB w wr b L) : Calls Try.prog 53 #[.pointer (some ⟨b, 0, none⟩)] wr (DTold wr L) := decided_any h.h h.h1 (by have := h.hx; omega)
theorem LB.heard {w wr : World} {b : Nat} {L : Lr} (h : LB w wr b L) (k : Int) : Calls Try.prog 60 #[.pointer (some ⟨b, 0, none⟩), .int .i64 k] wr fun e w' => e = .returned (.agg #[.int .i64 (heardI L k).1, .int .i64 (heardI L k).2]) ∧ Below wr.heap.size wr w' := heard_any h.h ⟨h.h1, h.h2⟩ k
theorem newL (n : Nat) (set : Int) (w wr : World) (hb : Below w.heap.size w wr) (h1 : 1 ≤ n ∧ n ≤ 64) (h2 : 1 ≤ set ∧ set ≤ 2147483647) :
    Calls Try.prog 50 #[.int .i64 n, .int .i64 set] wr fun e u => ∃ b, e = .returned (.tuple #[.pointer (some ⟨b, 0, none⟩), .int .i64 0]) ∧ LB w u b ⟨n, fun _ => hd0, false, []⟩ := by
  refine (lnew_good n set wr h1 h2).mono fun e u ⟨b, e1, e2, e3⟩ => ⟨b, e1, ?_, below_step hb e2, h1.1, h1.2, by simp⟩
  obtain ⟨cs, vs, vd, k1, k2, k3, k4, k5, k6, k7, k8, k9⟩ := e3
  have hle := hb.size
  exact ⟨cs, vs, vd, Nat.le_trans hle k1, Nat.le_trans hle k2, k3, k4, fun i hi => ⟨(k5 i hi).1, (k5 i hi).2.1, (k5 i hi).2.2.1, Kd.R_mono (Kd.R_lower (k5 i hi).2.2.2 hle) fun k hk => Nat.le_trans hle hk⟩, k6, k7, k8, Kd.R_mono (Kd.R_lower k9 hle) fun k hk => Nat.le_trans hle hk⟩
/-- a literal row of one byte -/
theorem one_given {w : World} {g : Nat} {z : Int} (h : w.heap[g]? = some (.cells #[.int .u8 z] 5 (0, 0))) : Given w (some ⟨g, 0, none⟩) 1 [z] := by
  refine ⟨⟨?_, Nat.le_refl _⟩, fun e => by cases e⟩
  refine C_mkB (l := [z]) (by simp) fun i hi => ?_
  obtain rfl : i = 0 := by simpa using hi
  rw [show (⟨g, 0, none⟩ : Addr).add 0 = ⟨g, 0, none⟩ from rfl, cell_of_row _ g 0 _ _ _ h]
  rfl
theorem b_any (n d : Int) (w : World) : Calls Try.prog 52 #[.int .i64 n, .int .i64 d] w fun e w' => e = .returned (.agg #[.int .i64 n, .int .i64 d]) ∧ Below w.heap.size w w' := PLearnScript.chartularylaw22_b.calls n d n d w rfl
set_option maxHeartbeats 1600000 in
theorem hear62 {w wr : World} {b : Nat} {L : Lr} (h : LB w wr b L) (k n d z : Int) (want : Bool) (err : Int) :
    Calls Try.prog 62 #[.pointer (some ⟨b, 0, none⟩), .int .i64 k, .agg #[.int .i64 n, .int .i64 d], .int .u8 z, .bool want, .int .i64 err] wr fun e u => e = .returned (.bool ((hearI L k n d [z]).1.1 == want && (hearI L k n d [z]).1.2 == err)) ∧ LB w u b (hearI L k n d [z]).2 := by
  have hb1 : Below wr.heap.size wr (wr.alloc (.cells #[.int .i64 n, .int .i64 d] 23)) := (Below.refl _ _).alloc (Nat.le_refl _) _
  have hb2 : Below wr.heap.size wr ((wr.alloc (.cells #[.int .i64 n, .int .i64 d] 23)).alloc (.cells #[.int .u8 z] 5)) := hb1.alloc (by simp) _
  have hx : ((wr.alloc (.cells #[.int .i64 n, .int .i64 d] 23)).alloc (.cells #[.int .u8 z] 5)).heap[wr.heap.size + 1]? = some (.cells #[.int .u8 z] 5 (0, 0)) := by
    have := heap_alloc_new (wr.alloc (.cells #[.int .i64 n, .int .i64 d] 23)) (.cells #[.int .u8 z] 5)
    simpa using this
  have HC := Aside0.mk ((h.below hb2).hear k n d (one_given hx))
  obtain ⟨⟨⟨r, er⟩, L'⟩, hq⟩ : ∃ q, hearI L k n d [z] = q := ⟨_, rfl⟩
  rw [hq] at HC ⊢
  clear h hq hb1 hb2 hx
  simp only [List.length_cons, List.length_nil, Nat.zero_add] at HC
  unfold ansV at HC
  simp only at HC
  by_cases he : er = err
  · subst he
    rw [show (r == want && er == er) = (r == want) by simp]
    cases r <;> cases want
    all_goals
      go_enter Try.func62, Try.ntmps62
      go_wp2_with (go_at_call 51; (with_reducible refine HC.out.mono ?_); rintro e u ⟨rfl, hl⟩; have HL := Aside0.mk hl; clear hl)
      go_ret
      exact ⟨by simp, HL.out⟩
  · have he' : (er == err) = false := by simpa using he
    rw [show (r == want && er == err) = false by simp [he]]
    cases r <;> cases want
    all_goals
      go_enter Try.func62, Try.ntmps62
      go_wp2_with (go_at_call 51; (with_reducible refine HC.out.mono ?_); rintro e u ⟨rfl, hl⟩; have HL := Aside0.mk hl; clear hl)
      go_ret
      exact ⟨by simp, HL.out⟩
/-- the chapter's learner -/
def l0 : Lr := ⟨3, fun _ => hd0, false, []⟩
def l1 : Lr := l0.set 1 ⟨2, 1, [7]⟩
def l2 : Lr := l1.set 2 ⟨3, 2, [8]⟩
def l3 : Lr := { l2.set 1 ⟨3, 2, [8]⟩ with dec := true, data := [8] }
theorem l0_hear : hearI l0 1 2 1 [7] = ((false, 0), l1) := by kernel_rfl
theorem l1_hear : hearI l1 2 3 2 [8] = ((false, 0), l2) := by kernel_rfl
theorem l2_hear : hearI l2 2 2 1 [7] = ((false, 0), l2) := by kernel_rfl
theorem l2_hear2 : hearI l2 1 3 2 [8] = ((true, 0), l3) := by kernel_rfl
theorem l2_heard : heardI l2 2 = (3, 2) := by kernel_rfl
theorem hear_at {w wr : World} {b : Nat} {L L' : Lr} {k n d z err er : Int} {want r : Bool} (h : LB w wr b L) (he : hearI L k n d [z] = ((r, er), L')) (hr : (r == want && er == err) = true) :
    Calls Try.prog 62 #[.pointer (some ⟨b, 0, none⟩), .int .i64 k, .agg #[.int .i64 n, .int .i64 d], .int .u8 z, .bool want, .int .i64 err] wr fun e u => e = .returned (.bool true) ∧ LB w u b L' := by
  have := hear62 h k n d z want err
  rw [he] at this
  rwa [hr] at this
theorem decided_at {w wr : World} {b : Nat} {L : Lr} (h : LB w wr b L) {l : List Int} (hl : (if L.dec then L.data else []) = l) :
    Calls Try.prog 53 #[.pointer (some ⟨b, 0, none⟩)] wr fun e u => ∃ A c, e = .returned (.tuple #[.slice A l.length c, .bool L.dec]) ∧ Below wr.heap.size wr u ∧ RowB u wr.heap.size (.slice A l.length c) l :=
  h.decided.mono fun e u ⟨A, c, l', e1, e2, e3, e4⟩ => by
    rw [hl] at e4
    subst e4
    exact ⟨A, c, e1, e2, e3⟩
theorem heard_at {w wr : World} {b : Nat} {L : Lr} {k n d : Int} (h : LB w wr b L) (he : heardI L k = (n, d)) : Calls Try.prog 60 #[.pointer (some ⟨b, 0, none⟩), .int .i64 k] wr fun e w' => e = .returned (.agg #[.int .i64 n, .int .i64 d]) ∧ Below wr.heap.size wr w' := by
  have := h.heard k
  rwa [he] at this
set_option maxHeartbeats 3200000 in
set_option maxRecDepth 100000 in
theorem three_any (w0 w : World) (hb0 : Below w0.heap.size w0 w) : Calls Try.prog 61 #[] w fun e u => ∃ b, e = .returned (.pointer (some ⟨b, 0, none⟩)) ∧ LB w0 u b l3 := by
  have HNEW : Aside0 (Calls Try.prog 50 #[.int .i64 3, .int .i64 1] w fun e u => ∃ b, e = .returned (.tuple #[.pointer (some ⟨b, 0, none⟩), .int .i64 0]) ∧ LB w0 u b l0) := ⟨newL 3 1 w0 w hb0 (by decide) (by decide)⟩
  have HBA := Aside0.mk b_any
  go_enter Try.func61, Try.ntmps61
  go_wp2_with (first
    | (go_at_call 50; (with_reducible refine HNEW.out.mono ?_); rintro e u ⟨b, rfl, hl⟩; have HL : Aside0 (LB w0 u b l0) := ⟨hl⟩; clear hl)
    | (go_at_call 52; (with_reducible refine (HBA.out _ _ _).mono ?_); rintro e u ⟨rfl, hb⟩; have HX := Aside0.mk (HL.out.below hb); clear HL hb; have HL := HX; clear HX)
    | (go_at_call 62; (with_reducible refine (hear_at HL.out l0_hear rfl).mono ?_); rintro e u ⟨rfl, hl⟩; have HX := Aside0.mk hl; clear HL hl; have HL := HX; clear HX)
    | (go_at_call 62; (with_reducible refine (hear_at HL.out l1_hear rfl).mono ?_); rintro e u ⟨rfl, hl⟩; have HX := Aside0.mk hl; clear HL hl; have HL := HX; clear HX)
    | (go_at_call 62; (with_reducible refine (hear_at HL.out l2_hear rfl).mono ?_); rintro e u ⟨rfl, hl⟩; have HX := Aside0.mk hl; clear HL hl; have HL := HX; clear HX)
    | (go_at_call 62; (with_reducible refine (hear_at HL.out l2_hear2 rfl).mono ?_); rintro e u ⟨rfl, hl⟩; have HX := Aside0.mk hl; clear HL hl; have HL := HX; clear HX)
    | (go_at_call 60; (with_reducible refine (heard_at HL.out l2_heard).mono ?_); rintro e u ⟨rfl, hb⟩; have HX := Aside0.mk (HL.out.below hb); clear HL hb; have HL := HX; clear HX)
    | (go_at_call 53; (with_reducible refine (decided_at (l := []) HL.out rfl).mono ?_); rintro e u ⟨A, c, rfl, hb, _⟩; have HX := Aside0.mk (HL.out.below hb); clear HL hb; have HL := HX; clear HX))
  go_ret
  exact ⟨b, rfl, HL.out⟩
theorem given_of_row {w : World} {base : Nat} {A : Option Addr} {c : Nat} {l : List Int} (h : RowB w base (.slice A l.length c) l) : Given w A c l := by
  obtain ⟨A1, c1, e, hg⟩ := given_of_R h.1
  injection e with e1 e2 e3
  subst e1
  subst e3
  exact hg
theorem sameB_refl (l : List Int) : sameB l l = true := by unfold sameB; simp
set_option maxHeartbeats 1600000 in
set_option maxRecDepth 100000 in
theorem awake49 (w : World) : Calls Try.prog 49 #[] w fun e u => e = .returned (.bool true) ∧ Below w.heap.size w u := by
  have HTH := Aside0.mk (three_any w w (Below.refl _ _))
  have HLIT : Aside0 (∀ (u : World) (A : Option Addr) (c : Nat), Given u A c [8] → Calls Try.prog 54 #[.slice A 1 c, .slice (some ⟨u.heap.size, 0, none⟩) 1 1] (u.alloc (.cells #[.int .u8 8] 5)) fun e v => e = .returned (.bool true) ∧ Below u.heap.size u v) := ⟨fun u A c hg => by
    have hb : Below u.heap.size u (u.alloc (.cells #[.int .u8 8] 5)) := (Below.refl _ _).alloc (Nat.le_refl _) _
    exact (same_bytes (hg.below hb).1 (one_given (heap_alloc_new _ _)).1).mono fun e v ⟨h1, h2⟩ => ⟨by rw [h1, sameB_refl], below_step hb h2⟩⟩
  go_enter Try.func49, Try.ntmps49
  go_wp2_with (first
    | (go_at_call 61; (with_reducible refine HTH.out.mono ?_); rintro e u ⟨b, rfl, hl⟩; have HL := Aside0.mk hl; clear hl)
    | (go_at_call 53; (with_reducible refine (decided_at (l := [8]) HL.out rfl).mono ?_); rintro e u ⟨A, c, rfl, hb, hr⟩; have HB := Aside0.mk (below_step HL.out.hb hb); have HG := Aside0.mk (given_of_row hr); clear hb hr)
    | (go_at_call 54; (with_reducible refine (HLIT.out _ _ _ HG.out).mono ?_); rintro e u ⟨rfl, hb⟩; have HB2 := Aside0.mk (below_step HB.out hb); clear hb))
  go_ret
  exact ⟨rfl, HB2.out⟩
end Go.Proofs.Ytheafmjdncmpoaa
