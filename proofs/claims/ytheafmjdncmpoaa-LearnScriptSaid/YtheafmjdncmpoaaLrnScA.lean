/-
  Learn: the document's learner in memory.
  Learn: the document's Check, Less, Majority, Heard, Told.
  Learn: append([]byte{}, data...) inside a walk; the document's Told.
  Learn: the document's Told.
  Learn: the document's Hear: what it does not take.
  Learn: the document's learner noted: a ballot, data; a copy by append told whole.
-/
import Derived.Test.YtheafmjdncmpoaaLrnV
import Derived.Test.YtheafmjdncmpoaaPLearnScriptx2
import Derived.BigQuiet
import Derived.Deep.QuietTactic
import Derived.Deep.RegionLaw
namespace Go.Proofs.Ytheafmjdncmpoaa
set_option linter.unusedSimpArgs false
set_option linter.unusedVariables false
open Go.RowKit Go.Proofs.YtheafmjdncmpoaaW.PrintWords Go.Proofs.YtheafmjdncmpoaaW.PrintMore

/-- the document's learner at block p; its ballots at t, its data at d -/
structure RL (w : World) (base : Nat) (F : Nat → Prop) (p t d ct cd : Nat) (L : Lr) : Prop where
  hp : ∃ vd, w.heap[p]? = some (.cells #[.slice (some ⟨t, 0, none⟩) L.nodes ct, .slice (some ⟨d, 0, none⟩) L.nodes cd, .bool L.dec, vd] 125 (0, 0)) ∧ kB.R 5 w base F vd L.data
  ht : ∃ cs : Array Value, w.heap[t]? = some (.cells cs 23 (0, 0)) ∧ ∀ i, i < L.nodes → cs[i * 2]? = some (.int .i64 (L.of (i + 1)).n) ∧ cs[i * 2 + 1]? = some (.int .i64 (L.of (i + 1)).d)
  hd : ∃ cs : Array Value, w.heap[d]? = some (.cells cs 69 (0, 0)) ∧ ∀ i, i < L.nodes → ∃ v, cs[i]? = some v ∧ kB.R 5 w base F v (L.of (i + 1)).x
  fp : F p ∧ base ≤ p
  ft : F t ∧ base ≤ t
  fd : F d ∧ base ≤ d
section
variable {w w' : World} {base : Nat} {F F' : Nat → Prop} {p t d ct cd : Nat} {L : Lr}
theorem RL.move (h : RL w base F p t d ct cd L) (hm : ∀ k, F k → k < w.heap.size → w'.heap[k]? = w.heap[k]?) : RL w' base F p t d ct cd L := by
  obtain ⟨vd, h1, h2⟩ := h.hp
  obtain ⟨cs, h3, h4⟩ := h.ht
  obtain ⟨ds, h5, h6⟩ := h.hd
  exact ⟨⟨vd, (hm p h.fp.1 (Array.getElem?_eq_some_iff.1 h1).1).trans h1, Kd.R_step h2 hm⟩, ⟨cs, (hm t h.ft.1 (Array.getElem?_eq_some_iff.1 h3).1).trans h3, h4⟩,
    ⟨ds, (hm d h.fd.1 (Array.getElem?_eq_some_iff.1 h5).1).trans h5, fun i hi => by obtain ⟨v, e1, e2⟩ := h6 i hi; exact ⟨v, e1, Kd.R_step e2 hm⟩⟩, h.fp, h.ft, h.fd⟩
theorem RL.below (h : RL w base F p t d ct cd L) (hb : Below w.heap.size w w') : RL w' base F p t d ct cd L := h.move fun k _ hk => hb.block k hk
theorem RL.mono (h : RL w base F p t d ct cd L) (hF : ∀ k, F k → F' k) : RL w base F' p t d ct cd L := by
  obtain ⟨vd, h1, h2⟩ := h.hp
  obtain ⟨ds, h5, h6⟩ := h.hd
  exact ⟨⟨vd, h1, Kd.R_mono h2 hF⟩, h.ht, ⟨ds, h5, fun i hi => by obtain ⟨v, e1, e2⟩ := h6 i hi; exact ⟨v, e1, Kd.R_mono e2 hF⟩⟩, ⟨hF p h.fp.1, h.fp.2⟩, ⟨hF t h.ft.1, h.ft.2⟩, ⟨hF d h.fd.1, h.fd.2⟩⟩
theorem RL.bound (h : RL w base F p t d ct cd L) : RL w base (fun k => F k ∧ base ≤ k ∧ k < w.heap.size) p t d ct cd L := by
  obtain ⟨vd, h1, h2⟩ := h.hp
  obtain ⟨cs, h3, h4⟩ := h.ht
  obtain ⟨ds, h5, h6⟩ := h.hd
  have hb : ∀ {v xs}, kB.R 5 w base F v xs → kB.R 5 w base (fun k => F k ∧ base ≤ k ∧ k < w.heap.size) v xs := fun hR => Kd.R_mono (Kd.R_bound hR) fun k hk => ⟨hk.1, hk.2.1, hk.2.2.1⟩
  exact ⟨⟨vd, h1, hb h2⟩, ⟨cs, h3, h4⟩, ⟨ds, h5, fun i hi => by obtain ⟨v, e1, e2⟩ := h6 i hi; exact ⟨v, e1, hb e2⟩⟩,
    ⟨⟨h.fp.1, h.fp.2, (Array.getElem?_eq_some_iff.1 h1).1⟩, h.fp.2⟩, ⟨⟨h.ft.1, h.ft.2, (Array.getElem?_eq_some_iff.1 h3).1⟩, h.ft.2⟩, ⟨⟨h.fd.1, h.fd.2, (Array.getElem?_eq_some_iff.1 h5).1⟩, h.fd.2⟩⟩
theorem RL.fields (h : RL w base F p t d ct cd L) : ∃ A c, w.cell? ⟨p, 0, none⟩ = some (.slice (some ⟨t, 0, none⟩) L.nodes ct) ∧ w.cell? ⟨p, 1, none⟩ = some (.slice (some ⟨d, 0, none⟩) L.nodes cd) ∧ w.cell? ⟨p, 2, none⟩ = some (.bool L.dec) ∧
    w.cell? ⟨p, 3, none⟩ = some (.slice A L.data.length c) ∧ Given w A c L.data := by
  obtain ⟨vd, h1, h2⟩ := h.hp
  obtain ⟨A, c, e, hg⟩ := given_of_R h2
  subst e
  exact ⟨A, c, by rw [cell_of_row _ p 0 _ _ _ h1]; rfl, by rw [cell_of_row _ p 1 _ _ _ h1]; rfl, by rw [cell_of_row _ p 2 _ _ _ h1]; rfl, by rw [cell_of_row _ p 3 _ _ _ h1]; rfl, hg⟩
theorem RL.ballot (h : RL w base F p t d ct cd L) {i : Nat} (hi : i < L.nodes) : w.cell? ⟨t, i * 2, none⟩ = some (.int .i64 (L.of (i + 1)).n) ∧ w.cell? ⟨t, i * 2 + 1, none⟩ = some (.int .i64 (L.of (i + 1)).d) := by
  obtain ⟨cs, h3, h4⟩ := h.ht
  exact ⟨by rw [cell_of_row _ t _ _ _ _ h3]; exact (h4 i hi).1, by rw [cell_of_row _ t _ _ _ _ h3]; exact (h4 i hi).2⟩
theorem RL.datum (h : RL w base F p t d ct cd L) {i : Nat} (hi : i < L.nodes) : ∃ A c, w.cell? ⟨d, i, none⟩ = some (.slice A (L.of (i + 1)).x.length c) ∧ Given w A c (L.of (i + 1)).x := by
  obtain ⟨ds, h5, h6⟩ := h.hd
  obtain ⟨v, e1, e2⟩ := h6 i hi
  obtain ⟨A, c, e, hg⟩ := given_of_R e2
  subst e
  exact ⟨A, c, by rw [cell_of_row _ d _ _ _ _ h5]; exact e1, hg⟩
end
theorem rcheck_any (n d : Int) (w : World) : Calls Try.prog 25 #[.agg #[.int .i64 n, .int .i64 d]] w fun e w' => e = .returned (.int .i64 (if checkB n d then 0 else 2)) ∧ Below w.heap.size w w' := by
  refine PLearnScript.chartularyref19_Check.calls n d _ w ?_
  unfold PLearnScript.chartularyref19_Check.f PLearnScript.chartularyref19_node.f checkB
  by_cases h1 : n < 1
  · rw [if_pos h1, if_neg (by simp; omega)]
  · rw [if_neg h1]
    by_cases h2 : n > 2147483647
    · rw [if_pos h2, if_neg (by simp; omega)]
    · rw [if_neg h2]
      by_cases h3 : d ≥ 1
      · rw [if_pos h3]
        simp only [Option.bind_some]
        by_cases h4 : d ≤ 64
        · rw [if_pos (by simpa using h4), if_pos (by simp; omega)]
        · rw [if_neg (by simpa using h4), if_neg (by simp; omega)]
      · rw [if_neg h3]
        simp only [Option.bind_some]
        rw [if_neg (by simp), if_neg (by simp; omega)]
theorem rless_any (a b c d : Int) (w : World) : Calls Try.prog 26 #[.agg #[.int .i64 a, .int .i64 b], .agg #[.int .i64 c, .int .i64 d]] w fun e w' => e = .returned (.bool (lessB a b c d)) ∧ Below w.heap.size w w' := by
  refine PLearnScript.chartularyref19_Less.calls a b c d _ w ?_
  unfold PLearnScript.chartularyref19_Less.f
  by_cases h1 : a < c
  · rw [if_pos h1, (lessB_iff a b c d).2 (.inl h1)]
  · rw [if_neg h1]
    by_cases h2 : a = c
    · rw [if_pos h2]
      congr 1
      unfold lessB
      rw [decide_eq_decide]
      omega
    · rw [if_neg h2, (lessB_not a b c d).2 (by omega)]
theorem rmaj_of {n : Nat} (h1 : 1 ≤ n) (h2 : n ≤ 64) (w : World) : Calls Try.prog 36 #[.int .i64 n] w fun e w' => e = .returned (.int .i64 ((n / 2 + 1 : Nat) : Int)) ∧ Below w.heap.size w w' := by
  refine (PLearnScript.chartularyref18_Majority.calls n ((n / 2 + 1 : Nat) : Int) w ?_).mono fun e u ⟨e1, e2⟩ => ⟨e1, e2.below⟩
  unfold PLearnScript.chartularyref18_Majority.f PLearnScript.chartularyref18_node.f
  rw [if_pos (by omega)]
  simp only [Option.bind_some]
  rw [if_pos (by simp; omega)]
  congr 1
  have e1 : Int.tdiv (n : Int) 2 = ((n / 2 : Nat) : Int) := by rw [Int.tdiv_eq_ediv_of_nonneg (by omega)]; omega
  rw [e1]
  have w1 : ∀ k : Nat, k ≤ 1000 → wrap64 (k : Int) = k := fun k hk => by unfold wrap64; omega
  rw [w1 _ (by omega), show ((n / 2 : Nat) : Int) + 1 = ((n / 2 + 1 : Nat) : Int) by omega, w1 _ (by omega)]
set_option maxHeartbeats 1600000 in
set_option maxRecDepth 100000 in
theorem rheard_any {w : World} {base : Nat} {F : Nat → Prop} {p t d ct cd : Nat} {L : Lr} (h : RL w base F p t d ct cd L) (hn : 1 ≤ L.nodes ∧ L.nodes ≤ 64) (k : Int) :
    Calls Try.prog 93 #[.pointer (some ⟨p, 0, none⟩), .int .i64 k] w fun e w' => e = .returned (.agg #[.int .i64 (heardI L k).1, .int .i64 (heardI L k).2]) ∧ Below w.heap.size w w' := by
  obtain ⟨A, c, q0, _, _, _, _⟩ := h.fields
  obtain ⟨n, hN⟩ : ∃ n, L.nodes = n := ⟨_, rfl⟩
  have hpw : p < w.heap.size := World.block_lt_of_cell? w _ q0
  have HB := Aside0.mk ((Below.refl w.heap.size w).alloc (o := .cells #[.int .i64 0, .int .i64 0] 23) (Nat.le_refl _))
  have q1 := pw_cell_below HB.out q0
  have H := Aside0.mk (h.below HB.out)
  rw [hN] at q1 hn
  obtain ⟨hn1, hn2⟩ := hn
  have HN := Aside0.mk hN
  clear q0 h hN
  by_cases h1 : k < 1
  · have e : heardI L k = (0, 0) := by unfold heardI; rw [if_pos (.inl h1)]
    rw [e]
    clear e
    go_enter Try.func93, Try.ntmps93
    go_wp2
    exact bodyPost_ret (results_cell_row rfl _ _ w.heap.size 23 #[.int .i64 0, .int .i64 0] (0, 0) _ rfl (heap_alloc_new _ _) Try.underlying23 rfl (by kernel_rfl)) rfl ⟨rfl, HB.out⟩
  · have h1' : 1 ≤ k := by omega
    by_cases h2 : (n : Int) < k
    · have e : heardI L k = (0, 0) := by unfold heardI; rw [if_pos (.inr (by rw [HN.out]; exact h2))]
      rw [e]
      clear e h1
      go_enter Try.func93, Try.ntmps93
      go_wp2
      exact bodyPost_ret (results_cell_row rfl _ _ w.heap.size 23 #[.int .i64 0, .int .i64 0] (0, 0) _ rfl (heap_alloc_new _ _) Try.underlying23 rfl (by kernel_rfl)) rfl ⟨rfl, HB.out⟩
    · have h2' : k ≤ (n : Int) := by omega
      have e : heardI L k = ((L.of k.toNat).n, (L.of k.toNat).d) := by unfold heardI; rw [HN.out, if_neg (by omega)]
      rw [e]
      obtain ⟨j, hj⟩ := Int.eq_ofNat_of_zero_le (show 0 ≤ k - 1 by omega)
      have hk : k.toNat = j + 1 := by omega
      rw [hk]
      have hjn : j < n := by omega
      obtain ⟨p0, p1⟩ := H.out.ballot (i := j) (by rw [HN.out]; exact hjn)
      clear e h1 h2 hk
      obtain ⟨⟨hn', hd', hx'⟩, hh⟩ : ∃ q, L.of (j + 1) = q := ⟨_, rfl⟩
      rw [hh] at p0 p1 ⊢
      simp only at p0 p1 ⊢
      clear hh
      have kI1 : (j : Int) < (n : Int) := by omega
      have HB2 := Aside0.mk ((Below.refl w.heap.size w).alloc (o := .cells #[.int .i64 hn', .int .i64 hd'] 23) (Nat.le_refl _))
      go_enter Try.func93, Try.ntmps93
      go_wp2
      exact bodyPost_ret (results_cell_row rfl _ _ w.heap.size 23 #[.int .i64 hn', .int .i64 hd'] (0, 0) _ rfl (heap_alloc_new _ _) Try.underlying23 rfl (by kernel_rfl)) rfl ⟨rfl, HB2.out⟩
theorem wp_append_copy {ops : Array Oper} {rest : List Oper} {o : Oper} {a : Act} {Q : Exit → Act → World → Prop} (w : World) (hgd : o.guard = none) (s x : Operand)
    (ho : o.op = .call { callee := .builtin .append, args := #[s, x], argTypes := #[69, 69] }) {A : Option Addr} {c : Nat} {l : List Int} (hs : a.eval s = .slice (some ⟨w.heap.size, 0, none⟩) 0 0) (hx : a.eval x = .slice A l.length c)
    (hg : Given w A c l) (hl : l.length ≤ 100000) (h : ∀ A1 c1 w', Below w.heap.size w w' → RowB w' w.heap.size (.slice A1 l.length c1) l → wpList Try.prog ops Q rest (a.put o.dst (.slice A1 l.length c1)) w') :
    wpList Try.prog ops Q (o :: rest) a (w.alloc (.cells #[] 5)) := by
  obtain ⟨i0, hi, hz0, hz1, hz2⟩ := info_parts info5
  have HB : Below w.heap.size w (w.alloc (.cells #[] 5)) := (Below.refl _ _).alloc (Nat.le_refl _) _
  have HO : (w.alloc (.cells #[] 5)).ownsRow w.heap.size 5 1 (.slice (some ⟨w.heap.size, 0, none⟩) 0 0) 0 [] := World.ownsRow_lit w #[] 0 (Nat.le_refl _) (by decide) rfl
  have HF : Full (isI .u8) 5 (w.alloc (.cells #[] 5)) (.slice (some ⟨w.heap.size, 0, none⟩) 0 0) := fun k hk => by
    obtain rfl : w.heap.size = k := by simpa [Value.ownBlock] using hk
    exact ⟨#[], heap_alloc_new _ _, by simp⟩
  have fin : ∀ v w', (Below w.heap.size w w') → RowB w' w.heap.size v l → wpList Try.prog ops Q rest (a.put o.dst v) w' := fun v w' h1 h2 => by
    obtain ⟨A1, c1, e1, _⟩ := Kd.R_reads h2.1
    subst e1
    exact h A1 c1 w' h1 h2
  cases A with
  | some ad =>
    have HC := C_newsB (Kd.C_below hg.1.1 HB)
    refine wpList_append_full (w.alloc (.cells #[] 5)) (isI .u8) hgd s x 69 ho w.heap.size 5 i0 (.int .u8 0) 1 1 Try.underlying69 hi hz0 hz1 hz2 rfl (by decide) (.slice (some ⟨w.heap.size, 0, none⟩) 0 0) 0 [] hs HO HF zero_isB ad l.length c (l.map fun x => Value.int .u8 x) hx (by simp) HC ?_ ?_ (by simp only [maxLen]; omega) (by omega) (by simp) ?_
    · intro u hu; obtain ⟨x, _, rfl⟩ := List.mem_map.1 hu; rfl
    · intro u hu; obtain ⟨x, _, rfl⟩ := List.mem_map.1 hu; exact ⟨x, rfl⟩
    · intro v1 w1 ho1 hg1 hat hf
      refine fin v1 w1 (HB.grown hg1 (by simp) (fun k hk => ?_)) ⟨RB_of_owns (by simpa using ho1), hf⟩
      obtain rfl : w.heap.size = k := by simpa [Value.ownBlock] using hk
      exact Nat.le_refl _
  | none =>
    obtain ⟨rfl, rfl⟩ := hg.empty
    refine Kd.event_run (v := .slice (some ⟨w.heap.size, 0, none⟩) 0 0) (w1 := w.alloc (.cells #[] 5)) hgd ?_ (fin _ _ HB ⟨RB_of_owns (l := []) HO, HF⟩)
    unfold execOp
    simp only [ho, resolve, invoke, builtin, Sem.run_bind, Sem.run_pure, Result.andThen_ok, List.map_toArray, List.map_cons, List.map_nil, hs, hx]
    rw [show (Builtin.append_ #[69, 69] o.type #[.slice (some ⟨w.heap.size, 0, none⟩) 0 0, .slice none ([] : List Int).length 0]).run Try.prog (w.alloc (.cells #[] 5)) = _ from run_append_owned_none (P := Try.prog) (w.alloc (.cells #[] 5)) w.heap.size 69 o.type 5 i0 1 Try.underlying69 hi _ _ _ HO]
    rfl
theorem wp_append_copy' {ops : Array Oper} {rest : List Oper} {o : Oper} {a : Act} {Q : Exit → Act → World → Prop} (w : World) {g : Nat} (hgw : g = w.heap.size) (hgd : o.guard = none) (s x : Operand)
    (ho : o.op = .call { callee := .builtin .append, args := #[s, x], argTypes := #[69, 69] }) {A : Option Addr} {c : Nat} {l : List Int} (hs : a.eval s = .slice (some ⟨g, 0, none⟩) 0 0) (hx : a.eval x = .slice A l.length c)
    (hg : Given w A c l) (hl : l.length ≤ 100000) (h : ∀ A1 c1 w', Below w.heap.size w w' → RowB w' w.heap.size (.slice A1 l.length c1) l → wpList Try.prog ops Q rest (a.put o.dst (.slice A1 l.length c1)) w') :
    wpList Try.prog ops Q (o :: rest) a (w.alloc (.cells #[] 5)) := wp_append_copy w hgd s x ho (by rw [hs, hgw]) hx hg hl h
/-- what the document's Told does -/
def toldR (L : Lr) (x : List Int) : (Bool × Int) × Lr :=
  if 4000 < x.length then ((false, 2), L) else if L.dec = true ∧ sameB L.data x = false then ((false, 12), L) else ((!L.dec, 0), { L with dec := true, data := x })
/-- the document's learner behind a call -/
def RAns (w : World) (base : Nat) (F : Nat → Prop) (p t d ct cd : Nat) (L : Lr) (v : Value) (e : Ending) (w' : World) : Prop :=
  e = .returned v ∧ Moved F w w' ∧ RL w' base (fun k => F k ∨ w.heap.size ≤ k) p t d ct cd L
theorem RL.setP {w : World} {base : Nat} {F : Nat → Prop} {p t d ct cd : Nat} {L : Lr} (h : RL w base F p t d ct cd L) (j : Nat) (u : Value) (dec : Bool) {vd : Value} {x : List Int}
    (hv : kB.R 5 w base F vd x) (hc : ∀ v0, w.heap[p]? = some (.cells #[.slice (some ⟨t, 0, none⟩) L.nodes ct, .slice (some ⟨d, 0, none⟩) L.nodes cd, .bool L.dec, v0] 125 (0, 0)) → kB.R 5 w base F v0 L.data → (w.setCell ⟨p, j, none⟩ u).heap[p]? = some (.cells #[.slice (some ⟨t, 0, none⟩) L.nodes ct, .slice (some ⟨d, 0, none⟩) L.nodes cd, .bool dec, vd] 125 (0, 0))) :
    RL (w.setCell ⟨p, j, none⟩ u) base F p t d ct cd { L with dec := dec, data := x } := by
  obtain ⟨v0, e1, e2⟩ := h.hp
  obtain ⟨cs, e3, e4⟩ := h.ht
  obtain ⟨ds, e5, e6⟩ := h.hd
  have hs : ∀ k, k ≠ p → (w.setCell ⟨p, j, none⟩ u).heap[k]? = w.heap[k]? := fun k hk => Below.heap_setCell _ ⟨p, j, none⟩ _ k (fun e => hk (by rw [e]))
  have hR : ∀ {v' xs}, kB.R 5 w base F v' xs → kB.R 5 (w.setCell ⟨p, j, none⟩ u) base F v' xs := fun hR => by
    have hne : ∀ k, some k = _ → k ≠ p := fun k hk e => Kd.R_ne hR e1 (by decide) (by rw [← e]; exact hk)
    exact Kd.R_mono (Kd.R_step (Kd.R_tight rfl hR) fun k hk _ => hs k (hne k hk)) fun k hk => hR.1 k hk.symm
  have ntp : t ≠ p := fun e => by rw [e, e1] at e3; cases e3
  have ndp : d ≠ p := fun e => by rw [e, e1] at e5; cases e5
  exact ⟨⟨vd, hc v0 e1 e2, hR hv⟩, ⟨cs, (hs t ntp).trans e3, e4⟩, ⟨ds, (hs d ndp).trans e5, fun i hi => by obtain ⟨v', q1, q2⟩ := e6 i hi; exact ⟨v', q1, hR q2⟩⟩, h.fp, h.ft, h.fd⟩
theorem RL.setIs {w : World} {base : Nat} {F : Nat → Prop} {p t d ct cd : Nat} {L : Lr} (h : RL w base F p t d ct cd L) : RL (w.setCell ⟨p, 2, none⟩ (.bool true)) base F p t d ct cd { L with dec := true } := by
  obtain ⟨v0, e1, e2⟩ := h.hp
  exact h.setP 2 (.bool true) true e2 fun v1 k1 _ => by
    rw [e1] at k1
    cases k1
    exact heap_setCell_same _ p 2 _ _ (.bool true) e1
theorem RL.setWas {w : World} {base : Nat} {F : Nat → Prop} {p t d ct cd : Nat} {L : Lr} {v : Value} {x : List Int} (h : RL w base F p t d ct cd L) (hv : kB.R 5 w base F v x) : RL (w.setCell ⟨p, 3, none⟩ v) base F p t d ct cd { L with data := x } :=
  h.setP 3 v L.dec hv fun v1 k1 _ => heap_setCell_same _ p 3 _ _ v k1
theorem RL.frozen {w : World} {base : Nat} {F : Nat → Prop} {p t d ct cd : Nat} {L : Lr} (h : RL w base F p t d ct cd L) (j : Nat) : w.frozen? ⟨p, j, none⟩ = false := by
  obtain ⟨vd, e1, _⟩ := h.hp
  exact frozen_of_row _ p j _ _ e1
set_option maxHeartbeats 3200000 in
set_option maxRecDepth 100000 in
theorem rtold_any {w : World} {base : Nat} {F : Nat → Prop} {p t d ct cd : Nat} {L : Lr} {A : Option Addr} {c : Nat} {x : List Int} (h : RL w base F p t d ct cd L) (hbase : base ≤ w.heap.size) (hg : Given w A c x) :
    Calls Try.prog 90 #[.pointer (some ⟨p, 0, none⟩), .slice A x.length c] w (RAns w base F p t d ct cd (toldR L x).2 (ansV (toldR L x).1)) := by
  obtain ⟨A1, c1, _, _, q2, q3, hg1⟩ := h.fields
  have hxl := hg.1.1.2.1
  have hpw : p < w.heap.size := World.block_lt_of_cell? w _ q2
  have H := Aside0.mk h
  have HG := Aside0.mk hg
  have HG1 := Aside0.mk hg1
  by_cases h1 : 4000 < x.length
  · have e : toldR L x = ((false, 2), L) := by unfold toldR; rw [if_pos h1]
    rw [e]
    have h1' : (4000 : Int) < (x.length : Int) := by omega
    clear e h hg hg1
    go_enter Try.func90, Try.ntmps90
    go_wp2
    exact bodyPost_ret (v := ansV (false, 2)) (by simp [results, Try.results90, go_sem, ansV]) rfl ⟨rfl, Moved.of_below (Below.refl _ _), H.out.mono fun k hk => .inl hk⟩
  · have h1' : (x.length : Int) ≤ 4000 := by omega
    have hcv1 := Kd.C_string (P := Try.prog) (A := A1) (c := c1) Try.underlying69 Try.underlying5 Try.underlying9 hg1.1.1
    have hcv2 := Kd.C_string (P := Try.prog) (A := A) (c := c) Try.underlying69 Try.underlying5 Try.underlying9 hg.1.1
    have hX4 : x.length ≤ 4000 := by omega
    have HX4 := Aside0.mk hX4
    obtain ⟨dc, hdc⟩ : ∃ dc, L.dec = dc := ⟨_, rfl⟩
    rw [hdc] at q2
    have HS : Aside0 (∀ w', Below w.heap.size w w' → (fun w' => w'.cell? ⟨p, 2, none⟩ = some (.bool dc) ∧ w'.cell? ⟨p, 3, none⟩ = some (.slice A1 L.data.length c1) ∧ (convert 69 9 (.slice A1 L.data.length c1)).run Try.prog w' = .ok (.string (strOfNums L.data)) w' ∧ (convert 69 9 (.slice A x.length c)).run Try.prog w' = .ok (.string (strOfNums x)) w') w') := ⟨fun w' hb => ⟨pw_cell_below hb q2, pw_cell_below hb q3,
      Kd.C_string (P := Try.prog) (A := A1) (c := c1) Try.underlying69 Try.underlying5 Try.underlying9 (HG1.out.below hb).1.1, Kd.C_string (P := Try.prog) (A := A) (c := c) Try.underlying69 Try.underlying5 Try.underlying9 (HG.out.below hb).1.1⟩⟩
    cases dc with
    | true =>
      cases hs : sameB L.data x with
      | false =>
        have e : toldR L x = ((false, 12), L) := by unfold toldR; rw [if_neg h1, if_pos ⟨hdc, hs⟩]
        rw [e]
        unfold sameB at hs
        clear e h hg hg1 hdc h1 hX4
        go_enter Try.func90, Try.ntmps90
        go_wp2_with fail
        go_region_held3 (fun w' => w'.cell? ⟨p, 2, none⟩ = some (.bool true) ∧ w'.cell? ⟨p, 3, none⟩ = some (.slice A1 L.data.length c1) ∧ (convert 69 9 (.slice A1 L.data.length c1)).run Try.prog w' = .ok (.string (strOfNums L.data)) w' ∧ (convert 69 9 (.slice A x.length c)).run Try.prog w' = .ok (.string (strOfNums x)) w') (exact HS.out _ (Below.refl _ _).drew) (fail)
        all_goals
          go_wp2_with fail
          exact bodyPost_ret (v := ansV (false, 12)) (by simp [results, Try.results90, go_sem, ansV]) rfl ⟨rfl, Moved.of_below (Below.refl _ _).drew, (H.out.below (Below.refl _ _).drew).mono fun k hk => .inl hk⟩
      | true =>
        have e : toldR L x = ((false, 0), { L with dec := true, data := x }) := by unfold toldR; rw [if_neg h1, if_neg (by rw [hs]; simp), hdc]; rfl
        rw [e]
        unfold sameB at hs
        have hfz := (h.below (Below.refl w.heap.size w).drew).frozen 2
        have HG0 : Aside0 (Given (w.drew.setCell ⟨p, 2, none⟩ (.bool true)) A c x) := ⟨(hg.below (Below.refl _ _).drew).1.set _ (fun z e => by rw [pw_cell_below (Below.refl _ _).drew q2] at e; simp at e) _, hg.2⟩
        have HR0 : Aside0 (RL (w.drew.setCell ⟨p, 2, none⟩ (.bool true)) base F p t d ct cd { L with dec := true }) := ⟨(h.below (Below.refl _ _).drew).setIs⟩
        have HM0 : Aside0 (Moved F w (w.drew.setCell ⟨p, 2, none⟩ (.bool true))) := ⟨(Moved.of_below (Below.refl _ _).drew).set _ h.fp.1 _⟩
        have HFP : Aside0 (F p) := ⟨h.fp.1⟩
        clear e h hg hg1 hdc h1 hX4
        go_enter Try.func90, Try.ntmps90
        go_wp2_with fail
        go_region_held3 (fun w' => w'.cell? ⟨p, 2, none⟩ = some (.bool true) ∧ w'.cell? ⟨p, 3, none⟩ = some (.slice A1 L.data.length c1) ∧ (convert 69 9 (.slice A1 L.data.length c1)).run Try.prog w' = .ok (.string (strOfNums L.data)) w' ∧ (convert 69 9 (.slice A x.length c)).run Try.prog w' = .ok (.string (strOfNums x)) w') (exact HS.out _ (Below.refl _ _).drew) (fail)
        all_goals
          go_wp2_with ((with_reducible refine gate_builtin (b := .append) (xs := #[.tmp 32, .tmp 33]) rfl ?_); at_builtin; refine wp_append_copy' (w.drew.setCell ⟨p, 2, none⟩ (.bool true)) (by simp) rfl (.tmp 32) (.tmp 33) rfl rfl rfl HG0.out (by have := HX4.out; omega) ?_; intro A2 c2 w1 hb hr; have HB := Aside0.mk hb; have HRW := Aside0.mk hr; obtain ⟨_, _, _, _, _, q9, _⟩ := (HR0.out.below hb).fields; have f9 := (HR0.out.below hb).frozen 3; clear hb hr)
          refine bodyPost_ret (v := ansV (false, 0)) (by simp [results, Try.results90, go_sem, ansV]) rfl ⟨rfl, (HM0.out.trans (Moved.of_below HB.out)).set _ HFP.out _, ?_⟩
          exact ((HR0.out.below HB.out).mono fun k hk => .inl hk).setWas (Kd.R_lower (Kd.R_mono (Kd.R_bound HRW.out.1) (fun k hk => .inr (Nat.le_trans HM0.out.size hk.2.1))) (Nat.le_trans hbase HM0.out.size))
    | false =>
      have e : toldR L x = ((true, 0), { L with dec := true, data := x }) := by unfold toldR; rw [if_neg h1, if_neg (by rw [hdc]; simp), hdc]; rfl
      rw [e]
      clear e h hg hg1 hdc h1 hX4 hcv1 hcv2
      go_enter Try.func90, Try.ntmps90
      go_wp2_with fail
      go_quiet (fail)
      rename_i nq
      have hbq := pw_below_drewN (Below.refl w.heap.size w) nq
      generalize w.drewN nq = wd at hbq ⊢
      have r2 := pw_cell_below hbq q2
      have hfz := (H.out.below hbq).frozen 2
      have HG0 : Aside0 (Given (wd.setCell ⟨p, 2, none⟩ (.bool true)) A c x) := ⟨(HG.out.below hbq).1.set _ (fun z e => by rw [r2] at e; simp at e) _, HG.out.2⟩
      have HR0 : Aside0 (RL (wd.setCell ⟨p, 2, none⟩ (.bool true)) base F p t d ct cd { L with dec := true }) := ⟨(H.out.below hbq).setIs⟩
      have HM0 : Aside0 (Moved F w (wd.setCell ⟨p, 2, none⟩ (.bool true))) := ⟨(Moved.of_below hbq).set _ H.out.fp.1 _⟩
      have HFP : Aside0 (F p) := ⟨H.out.fp.1⟩
      clear hbq
      go_wp2_with ((with_reducible refine gate_builtin (b := .append) (xs := #[.tmp 32, .tmp 33]) rfl ?_); at_builtin; refine wp_append_copy' (wd.setCell ⟨p, 2, none⟩ (.bool true)) (by simp) rfl (.tmp 32) (.tmp 33) rfl rfl rfl HG0.out (by have := HX4.out; omega) ?_; intro A2 c2 w1 hb hr; have HB := Aside0.mk hb; have HRW := Aside0.mk hr; obtain ⟨_, _, _, _, _, q9, _⟩ := (HR0.out.below hb).fields; have f9 := (HR0.out.below hb).frozen 3; clear hb hr)
      refine bodyPost_ret (v := ansV (true, 0)) (by simp [results, Try.results90, go_sem, ansV]) rfl ⟨rfl, (HM0.out.trans (Moved.of_below HB.out)).set _ HFP.out _, ?_⟩
      exact ((HR0.out.below HB.out).mono fun k hk => .inl hk).setWas (Kd.R_lower (Kd.R_mono (Kd.R_bound HRW.out.1) (fun k hk => .inr (Nat.le_trans HM0.out.size hk.2.1))) (Nat.le_trans hbase HM0.out.size))
set_option maxHeartbeats 3200000 in
set_option maxRecDepth 100000 in
theorem rhear_stop {w : World} {base : Nat} {F : Nat → Prop} {p t d ct cd : Nat} {L : Lr} {A : Option Addr} {c : Nat} {x : List Int} {k n dd : Int} (h : RL w base F p t d ct cd L) (hxl : x.length ≤ 9223372036854775807)
    (hs : k < 1 ∨ (L.nodes : Int) < k ∨ checkB n dd = false ∨ 4000 < x.length) :
    Calls Try.prog 91 #[.pointer (some ⟨p, 0, none⟩), .int .i64 k, .agg #[.int .i64 n, .int .i64 dd], .slice A x.length c] w (RAns w base F p t d ct cd L (ansV (false, 2))) := by
  obtain ⟨A1, c1, q0, _, _, _, _⟩ := h.fields
  have H := Aside0.mk h
  obtain ⟨W, hW⟩ : ∃ W, w.alloc (.cells #[.int .i64 n, .int .i64 dd] 23) = W := ⟨_, rfl⟩
  have hb : Below w.heap.size w W := by rw [← hW]; exact (Below.refl _ _).alloc (Nat.le_refl _) _
  have HB := Aside0.mk hb
  have b0 : W.cell? ⟨w.heap.size, 0, none⟩ = some (.int .i64 n) := by rw [← hW]; exact (cell_of_row _ w.heap.size 0 _ _ _ (heap_alloc_new w _)).trans rfl
  have b1 : W.cell? ⟨w.heap.size, 1, none⟩ = some (.int .i64 dd) := by rw [← hW]; exact (cell_of_row _ w.heap.size 1 _ _ _ (heap_alloc_new w _)).trans rfl
  have p0 := pw_cell_below hb q0
  have HK := Aside0.mk (rcheck_any n dd W)
  obtain ⟨N, hN⟩ : ∃ N, L.nodes = N := ⟨_, rfl⟩
  obtain ⟨ln, hln⟩ : ∃ ln, x.length = ln := ⟨_, rfl⟩
  rw [hN] at p0 hs
  rw [hln] at hs hxl ⊢
  clear h hb q0 hN hln
  have fin : ∀ u, Below W.heap.size W u → RAns w base F p t d ct cd L (ansV (false, 2)) (.returned (ansV (false, 2))) u := fun u hu => ⟨rfl, Moved.of_below (below_step HB.out hu), (H.out.below (below_step HB.out hu)).mono fun k hk => .inl hk⟩
  have FIN := Aside0.mk fin
  clear fin
  by_cases h1 : k < 1
  · clear hs
    go_enter Try.func91, Try.ntmps91
    go_wp2
    exact bodyPost_ret (v := ansV (false, 2)) (by simp [results, Try.results91, go_sem, ansV]) rfl (FIN.out _ (Below.refl _ _))
  · have h1' : 1 ≤ k := by omega
    by_cases h2 : (N : Int) < k
    · clear hs
      go_enter Try.func91, Try.ntmps91
      go_wp2
      exact bodyPost_ret (v := ansV (false, 2)) (by simp [results, Try.results91, go_sem, ansV]) rfl (FIN.out _ (Below.refl _ _))
    · have h2' : k ≤ (N : Int) := by omega
      cases hc : checkB n dd with
      | false =>
        rw [hc] at HK
        simp only [Bool.false_eq_true, if_false, if_true] at HK
        clear hs hc h1 h2
        go_enter Try.func91, Try.ntmps91
        go_wp2_with (go_at_call 25; (with_reducible refine HK.out.mono ?_); rintro e u ⟨rfl, hb⟩; have HB2 := Aside0.mk hb; clear hb)
        exact bodyPost_ret (v := ansV (false, 2)) (by simp [results, Try.results91, go_sem, ansV]) rfl (FIN.out _ HB2.out)
      | true =>
        have h3 : 4000 < ln := by
          rcases hs with h | h | h | h
          · omega
          · omega
          · rw [hc] at h; cases h
          · exact h
        have h3' : (4000 : Int) < (ln : Int) := by omega
        rw [hc] at HK
        simp only [Bool.false_eq_true, if_false, if_true] at HK
        clear hs hc h1 h2
        go_enter Try.func91, Try.ntmps91
        go_wp2_with (go_at_call 25; (with_reducible refine HK.out.mono ?_); rintro e u ⟨rfl, hb⟩; have HB2 := Aside0.mk hb; clear hb)
        exact bodyPost_ret (v := ansV (false, 2)) (by simp [results, Try.results91, go_sem, ansV]) rfl (FIN.out _ HB2.out)
theorem kB_ne' {t : Nat} (h : 5 ≠ t) : ∀ q, q ∈ 5 :: kB.E → q ≠ t := by
  intro q hq
  rcases List.mem_cons.1 hq with rfl | hq
  · exact h
  · cases hq
section
variable {w : World} {base : Nat} {F : Nat → Prop} {p t d ct cd : Nat} {L : Lr}
theorem RL.setB (h : RL w base F p t d ct cd L) {i : Nat} (hi : i < L.nodes) (n dd : Int) :
    RL ((w.setCell ⟨t, i * 2, none⟩ (.int .i64 n)).setCell ⟨t, i * 2 + 1, none⟩ (.int .i64 dd)) base F p t d ct cd (L.set (i + 1) ⟨n, dd, (L.of (i + 1)).x⟩) := by
  obtain ⟨vd, h1, h2⟩ := h.hp
  obtain ⟨cs, h3, h4⟩ := h.ht
  obtain ⟨ds, h5, h6⟩ := h.hd
  have ntp : t ≠ p := fun e => by rw [e, h1] at h3; cases h3
  have ndt : d ≠ t := fun e => by rw [e, h3] at h5; cases h5
  have k1 := heap_setCell_same _ t (i * 2) _ _ (.int .i64 n) h3
  have k2 := heap_setCell_same _ t (i * 2 + 1) _ _ (.int .i64 dd) k1
  have hs : ∀ k, k ≠ t → ((w.setCell ⟨t, i * 2, none⟩ (.int .i64 n)).setCell ⟨t, i * 2 + 1, none⟩ (.int .i64 dd)).heap[k]? = w.heap[k]? := fun k hk =>
    (Below.heap_setCell _ ⟨t, i * 2 + 1, none⟩ _ k (fun e => hk (by rw [e]))).trans (Below.heap_setCell _ ⟨t, i * 2, none⟩ _ k (fun e => hk (by rw [e])))
  have hR : ∀ {v' xs}, kB.R 5 w base F v' xs → kB.R 5 ((w.setCell ⟨t, i * 2, none⟩ (.int .i64 n)).setCell ⟨t, i * 2 + 1, none⟩ (.int .i64 dd)) base F v' xs := fun hr => Kd.R_set (Kd.R_set hr h3 (kB_ne' (by decide)) _ _) k1 (kB_ne' (by decide)) _ _
  have hsz : ∀ j, j < L.nodes → j * 2 + 1 < cs.size := fun j hj => (Array.getElem?_eq_some_iff.1 (h4 j hj).2).1
  refine ⟨⟨vd, (hs p (Ne.symm ntp)).trans h1, hR h2⟩, ⟨_, k2, fun j hj => ?_⟩, ⟨ds, (hs d ndt).trans h5, fun j hj => ?_⟩, h.fp, h.ft, h.fd⟩
  · have hj' : j < L.nodes := hj
    by_cases e : j = i
    · subst e
      have e1 : (L.set (j + 1) ⟨n, dd, (L.of (j + 1)).x⟩).of (j + 1) = ⟨n, dd, (L.of (j + 1)).x⟩ := by simp [Lr.set]
      rw [e1]
      have := hsz j hj'
      exact ⟨by rw [Array.getElem?_setIfInBounds_ne (by omega), Array.getElem?_setIfInBounds_self_of_lt (by omega)], by rw [Array.getElem?_setIfInBounds_self_of_lt (by rw [Array.size_setIfInBounds]; omega)]⟩
    · have e1 : (L.set (i + 1) ⟨n, dd, (L.of (i + 1)).x⟩).of (j + 1) = L.of (j + 1) := by simp [Lr.set, e]
      rw [e1]
      obtain ⟨a1, a2⟩ := h4 j hj'
      exact ⟨by rw [Array.getElem?_setIfInBounds_ne (by omega), Array.getElem?_setIfInBounds_ne (by omega)]; exact a1, by rw [Array.getElem?_setIfInBounds_ne (by omega), Array.getElem?_setIfInBounds_ne (by omega)]; exact a2⟩
  · have hj' : j < L.nodes := hj
    obtain ⟨v, a1, a2⟩ := h6 j hj'
    refine ⟨v, a1, ?_⟩
    have e1 : ((L.set (i + 1) ⟨n, dd, (L.of (i + 1)).x⟩).of (j + 1)).x = (L.of (j + 1)).x := by
      by_cases e : j = i
      · subst e; simp [Lr.set]
      · simp [Lr.set, e]
    rw [e1]
    exact hR a2
theorem RL.setX (h : RL w base F p t d ct cd L) {i : Nat} (hi : i < L.nodes) {v : Value} {x : List Int} (hv : kB.R 5 w base F v x) :
    RL (w.setCell ⟨d, i, none⟩ v) base F p t d ct cd (L.set (i + 1) ⟨(L.of (i + 1)).n, (L.of (i + 1)).d, x⟩) := by
  obtain ⟨vd, h1, h2⟩ := h.hp
  obtain ⟨cs, h3, h4⟩ := h.ht
  obtain ⟨ds, h5, h6⟩ := h.hd
  have ndp : d ≠ p := fun e => by rw [e, h1] at h5; cases h5
  have ndt : d ≠ t := fun e => by rw [e, h3] at h5; cases h5
  have k1 := heap_setCell_same _ d i _ _ v h5
  have hs : ∀ k, k ≠ d → (w.setCell ⟨d, i, none⟩ v).heap[k]? = w.heap[k]? := fun k hk => Below.heap_setCell _ ⟨d, i, none⟩ _ k (fun e => hk (by rw [e]))
  have hR : ∀ {v' xs}, kB.R 5 w base F v' xs → kB.R 5 (w.setCell ⟨d, i, none⟩ v) base F v' xs := fun hr => Kd.R_set hr h5 (kB_ne' (by decide)) _ _
  have hsz : i < ds.size := by obtain ⟨v', a1, _⟩ := h6 i hi; exact (Array.getElem?_eq_some_iff.1 a1).1
  refine ⟨⟨vd, (hs p (Ne.symm ndp)).trans h1, hR h2⟩, ⟨cs, (hs t (Ne.symm ndt)).trans h3, fun j hj => ?_⟩, ⟨_, k1, fun j hj => ?_⟩, h.fp, h.ft, h.fd⟩
  · have hj' : j < L.nodes := hj
    have e1 : ((L.set (i + 1) ⟨(L.of (i + 1)).n, (L.of (i + 1)).d, x⟩).of (j + 1)).n = (L.of (j + 1)).n ∧ ((L.set (i + 1) ⟨(L.of (i + 1)).n, (L.of (i + 1)).d, x⟩).of (j + 1)).d = (L.of (j + 1)).d := by
      by_cases e : j = i
      · subst e; simp [Lr.set]
      · simp [Lr.set, e]
    rw [e1.1, e1.2]
    exact h4 j hj'
  · have hj' : j < L.nodes := hj
    by_cases e : j = i
    · subst e
      refine ⟨v, by rw [Array.getElem?_setIfInBounds_self_of_lt hsz], ?_⟩
      have e1 : ((L.set (j + 1) ⟨(L.of (j + 1)).n, (L.of (j + 1)).d, x⟩).of (j + 1)).x = x := by simp [Lr.set]
      rw [e1]
      exact hR hv
    · obtain ⟨v', a1, a2⟩ := h6 j hj'
      refine ⟨v', by rw [Array.getElem?_setIfInBounds_ne (by omega)]; exact a1, ?_⟩
      have e1 : ((L.set (i + 1) ⟨(L.of (i + 1)).n, (L.of (i + 1)).d, x⟩).of (j + 1)).x = (L.of (j + 1)).x := by simp [Lr.set, e]
      rw [e1]
      exact hR a2
theorem RL.frozenT (h : RL w base F p t d ct cd L) (j : Nat) : w.frozen? ⟨t, j, none⟩ = false := by
  obtain ⟨cs, e1, _⟩ := h.ht
  exact frozen_of_row _ t j _ _ e1
theorem RL.frozenD (h : RL w base F p t d ct cd L) (j : Nat) : w.frozen? ⟨d, j, none⟩ = false := by
  obtain ⟨cs, e1, _⟩ := h.hd
  exact frozen_of_row _ d j _ _ e1
end
theorem set_set (L : Lr) (k : Nat) (h1 h2 : Hd) : (L.set k h1).set k h2 = L.set k h2 := by
  unfold Lr.set
  simp only [Lr.mk.injEq, true_and, and_true]
  funext i
  by_cases e : i = k <;> simp [e]
/-- append of bytes onto an empty slice of the call's own -/
theorem run_copyB {w W : World} {g : Nat} (ty : TypeId) (hg : W.heap[g]? = some (.cells #[] 5 (0, 0))) (hbg : w.heap.size ≤ g) (hB : Below w.heap.size w W) {A : Option Addr} {c : Nat} {l : List Int} (hG : Given W A c l) (hl : l.length ≤ 100000) :
    ∃ A1 c1 w', (Builtin.append_ #[69, 69] ty #[.slice (some ⟨g, 0, none⟩) 0 0, .slice A l.length c]).run Try.prog W = .ok (.slice A1 l.length c1) w' ∧ Below w.heap.size w w' ∧ RowB w' w.heap.size (.slice A1 l.length c1) l := by
  obtain ⟨i0, hi, hz0, hz1, hz2⟩ := info_parts info5
  have HO : W.ownsRow w.heap.size 5 1 (.slice (some ⟨g, 0, none⟩) 0 0) 0 [] := ⟨rfl, .inr ⟨g, 0, #[], rfl, hbg, hg, Nat.le_refl _, Nat.zero_le _, rfl, rfl⟩⟩
  have HF : Full (isI .u8) 5 W (.slice (some ⟨g, 0, none⟩) 0 0) := fun k hk => by
    obtain rfl : g = k := by simpa [Value.ownBlock] using hk
    exact ⟨#[], hg, by simp⟩
  have hown : ∀ k, (Value.slice (some ⟨g, 0, none⟩) 0 0).ownBlock = some k → w.heap.size ≤ k := fun k hk => by
    obtain rfl : g = k := by simpa [Value.ownBlock] using hk
    exact hbg
  cases A with
  | some ad =>
    obtain ⟨v', w', hr, ho, hgr, _, hf⟩ := run_append_full (P := Try.prog) W (isI .u8) w.heap.size 69 ty 5 i0 (.int .u8 0) 1 1 Try.underlying69 hi hz0 hz1 hz2 rfl (by decide) (.slice (some ⟨g, 0, none⟩) 0 0) 0 [] HO HF zero_isB ad l.length c (l.map fun x => Value.int .u8 x) (by simp) (C_newsB hG.1.1)
      (fun u hu => by obtain ⟨x, _, rfl⟩ := List.mem_map.1 hu; rfl) (fun u hu => by obtain ⟨x, _, rfl⟩ := List.mem_map.1 hu; exact ⟨x, rfl⟩) (by simp only [maxLen]; omega) (by omega) hB.size
    have hR : RowB w' w.heap.size v' l := ⟨RB_of_owns (by simpa using ho), hf⟩
    obtain ⟨A1, c1, e1, _⟩ := Kd.R_reads hR.1
    subst e1
    exact ⟨A1, c1, w', hr, hB.grown hgr hB.size hown, hR⟩
  | none =>
    obtain ⟨rfl, rfl⟩ := hG.empty
    exact ⟨some ⟨g, 0, none⟩, 0, W, run_append_owned_none (P := Try.prog) W w.heap.size 69 ty 5 i0 1 Try.underlying69 hi _ _ _ HO, hB, RB_of_owns (l := []) HO, HF⟩
theorem step_copyB {ops : Array Oper} {o : Oper} {a : Act} {W : World} {K : Act → World → Prop} {Q : Exit → Act → World → Prop} {E : Prop} (w : World) {g : Nat} (hg : o.guard = none) (s x : Operand)
    (hop : o.op = Op.call { callee := Callee.builtin Builtin.append, args := #[s, x], argTypes := #[69, 69] }) {A : Option Addr} {c : Nat} {l : List Int}
    (hs : a.eval s = .slice (some ⟨g, 0, none⟩) 0 0) (hx : a.eval x = .slice A l.length c) (hh : W.heap[g]? = some (.cells #[] 5 (0, 0))) (hbg : w.heap.size ≤ g) (hB : Below w.heap.size w W) (hG : Given W A c l) (hl : l.length ≤ 100000)
    (hK : ∀ A1 c1 w', Below w.heap.size w w' → RowB w' w.heap.size (.slice A1 l.length c1) l → K (a.put o.dst (.slice A1 l.length c1)) w') :
    if Region.wanted o (yielded ops a.tmps) = true then Oper.wp Try.prog o a W K Q else E := by
  have hw : Region.wanted o (yielded ops a.tmps) = true := by simp [Region.wanted, hg]
  rw [if_pos hw]
  obtain ⟨A1, c1, w', hrun, h1, h2⟩ := run_copyB o.type hh hbg hB hG hl
  unfold Oper.wp
  simp [execOp, hop, resolve, invoke, builtin, hs, hx, hrun, Result.andThen]
  exact hK _ _ _ h1 h2
end Go.Proofs.Ytheafmjdncmpoaa
