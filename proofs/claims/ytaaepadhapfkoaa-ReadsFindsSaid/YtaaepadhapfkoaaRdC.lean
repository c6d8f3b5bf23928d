/-
  Reads: whether nobody made it; it fails; it gets bytes.
-/
import Derived.Test.YtaaepadhapfkoaaRdB
namespace Go.Proofs.Ytaaepadhapfkoaa
set_option linter.unusedSimpArgs false
set_option linter.unusedVariables false
open Go.RowKit

theorem none_any (p : Nat) (me : Int) (w : World) (h : w.cell? ⟨p, 33, none⟩ = some (.int .i64 me)) (hm : 1 ≤ me) : Calls Try.prog 81 #[.pointer (some ⟨p, 0, none⟩)] w fun e w' => e = .returned (.bool false) ∧ w' = w := by
  have hb : (me == 0) = false := beq_eq_false_iff_ne.2 (by omega)
  go_enter Try.func81, Try.ntmps81
  go_wp2
  go_ret
  exact ⟨rfl, rfl⟩
theorem fails_run (p : Nat) (x : Int) (w : World) (c1 : (w.cell? ⟨p, 40, none⟩).isSome = true) (c2 : (w.cell? ⟨p, 108, none⟩).isSome = true) (f1 : w.frozen? ⟨p, 40, none⟩ = false) (f2 : w.frozen? ⟨p, 108, none⟩ = false) :
    Calls Try.prog 84 #[.pointer (some ⟨p, 0, none⟩), .int .i64 x] w fun e w' => e = .returned (.tuple #[]) ∧ w' = (w.setCell ⟨p, 40, none⟩ (.int .u8 3)).setCell ⟨p, 108, none⟩ (.int .i64 x) := by
  obtain ⟨v1, q1⟩ := Option.isSome_iff_exists.1 c1
  obtain ⟨v2, q2⟩ := Option.isSome_iff_exists.1 c2
  clear c1 c2
  go_enter Try.func84, Try.ntmps84
  go_wp2
  go_end0
  exact ⟨rfl, rfl⟩
section
variable {w w' : World} {p : Nat} {R : Rdr} {a1 a2 a3 : Option Addr} {c1 c2 c3 : Nat}
theorem grownBy_set (w : World) (p j : Nat) (v : Value) : w.grownBy (w.setCell ⟨p, j, none⟩ v) (some p) :=
  ⟨rfl, rfl, rfl, by simp [World.setCell], fun i hi hne => Below.heap_setCell w ⟨p, j, none⟩ v i (fun e => hne (by rw [e]))⟩
theorem RAt.putSt (h : RAt w p R a1 c1 a2 c2 a3 c3) (s : Nat) : RAt (w.setCell ⟨p, 40, none⟩ (.int .u8 (s : Nat))) p { R with st := s } a1 c1 a2 c2 a3 c3 :=
  h.put (by decide) _ (fun i hi => by
    by_cases e : i = 40
    · subst e; rfl
    · rw [if_neg e]; unfold Rf; rw [if_neg (show ¬ i = 40 from e), if_neg (show ¬ i = 40 from e)]) rfl rfl h.dat h.t3
theorem RAt.putErr (h : RAt w p R a1 c1 a2 c2 a3 c3) (s : Int) : RAt (w.setCell ⟨p, 108, none⟩ (.int .i64 s)) p { R with err := s } a1 c1 a2 c2 a3 c3 :=
  h.put (by decide) _ (fun i hi => by
    by_cases e : i = 108
    · subst e; rfl
    · rw [if_neg e]; unfold Rf; rw [if_neg (show ¬ i = 108 from e), if_neg (show ¬ i = 108 from e)]) rfl rfl h.dat h.t3
theorem RAt.putTicks (h : RAt w p R a1 c1 a2 c2 a3 c3) (s : Int) : RAt (w.setCell ⟨p, 109, none⟩ (.int .i64 s)) p { R with ticks := s } a1 c1 a2 c2 a3 c3 :=
  h.put (by decide) _ (fun i hi => by
    by_cases e : i = 109
    · subst e; rfl
    · rw [if_neg e]; unfold Rf; rw [if_neg (show ¬ i = 109 from e), if_neg (show ¬ i = 109 from e)]) rfl rfl h.dat h.t3
theorem RAt.putAll (h : RAt w p R a1 c1 a2 c2 a3 c3) (s : Int) : RAt (w.setCell ⟨p, 110, none⟩ (.int .i64 s)) p { R with all := s } a1 c1 a2 c2 a3 c3 :=
  h.put (by decide) _ (fun i hi => by
    by_cases e : i = 110
    · subst e; rfl
    · rw [if_neg e]; unfold Rf
      by_cases e2 : i = 109
      · subst e2; rfl
      · have : i < 109 := by omega
        simp only [if_neg e2]
        by_cases e3 : i = 108
        · subst e3; rfl
        · by_cases e4 : i = 107
          · subst e4; rfl
          · simp only [if_pos (show i < 107 by omega)]) rfl rfl h.dat h.t3
theorem RAt.putDat (h : RAt w p R a1 c1 a2 c2 a3 c3) {b3 : Option Addr} {d3 : Nat} {l : List Nat} (hd : Given w b3 d3 l) (ht : AtT w b3 5) : RAt (w.setCell ⟨p, 107, none⟩ (.slice b3 l.length d3)) p { R with data := l } a1 c1 a2 c2 b3 d3 :=
  h.put (by decide) _ (fun i hi => by
    by_cases e : i = 107
    · subst e; rfl
    · rw [if_neg e]; unfold Rf; rw [if_neg (show ¬ i = 107 from e), if_neg (show ¬ i = 107 from e)]) rfl rfl hd ht
theorem RAt.putKn (h : RAt w p R a1 c1 a2 c2 a3 c3) {j : Nat} (hj : j < 64) (hl : R.kn.length = 64) (x : Nat) : RAt (w.setCell ⟨p, 43 + j, none⟩ (.int .u8 (x : Nat))) p { R with kn := R.kn.set j x } a1 c1 a2 c2 a3 c3 :=
  h.put (by omega) _ (fun i hi => by
    by_cases e : i = 43 + j
    · subst e
      rw [if_pos rfl]; unfold Rf
      rw [if_neg (by omega), if_neg (by omega), if_neg (by omega), if_neg (by omega), if_neg (by omega), if_neg (by omega), if_neg (by omega), if_neg (by omega), if_neg (by omega), if_neg (by omega), if_neg (by omega), if_neg (by omega), if_pos (by omega), show 43 + j - 43 = j by omega]
      simp [List.getD, hl, hj]
    · rw [if_neg e]; unfold Rf
      by_cases e2 : 43 ≤ i ∧ i < 107
      · rw [if_neg (by omega), if_neg (by omega), if_neg (by omega), if_neg (by omega), if_neg (by omega), if_neg (by omega), if_neg (by omega), if_neg (by omega), if_neg (by omega), if_neg (by omega), if_neg (by omega), if_neg (by omega), if_pos (by omega),
          if_neg (by omega), if_neg (by omega), if_neg (by omega), if_neg (by omega), if_neg (by omega), if_neg (by omega), if_neg (by omega), if_neg (by omega), if_neg (by omega), if_neg (by omega), if_neg (by omega), if_neg (by omega), if_pos (by omega)]
        have hne : j ≠ i - 43 := by omega
        simp [List.getD, List.getElem?_set, hne]
      · by_cases e3 : i < 43
        · by_cases e0 : i = 0
          · subst e0; rfl
          · by_cases e1 : i < 33
            · rw [if_neg e0, if_pos e1, if_neg e0, if_pos e1]
            · obtain rfl | rfl | rfl | rfl | rfl | rfl | rfl | rfl | rfl | rfl : i = 33 ∨ i = 34 ∨ i = 35 ∨ i = 36 ∨ i = 37 ∨ i = 38 ∨ i = 39 ∨ i = 40 ∨ i = 41 ∨ i = 42 := by omega
              all_goals rfl
        · obtain rfl | rfl | rfl | rfl : i = 107 ∨ i = 108 ∨ i = 109 ∨ i = 110 := by omega
          all_goals rfl) rfl rfl h.dat h.t3
/-- it fails -/
theorem fails_any (h : RAt w p R a1 c1 a2 c2 a3 c3) (x : Int) : Calls Try.prog 84 #[.pointer (some ⟨p, 0, none⟩), .int .i64 x] w fun e w' => e = .returned (.tuple #[]) ∧ RAt w' p (R.fails x) a1 c1 a2 c2 a3 c3 ∧ w.grownBy w' (some p) := by
  refine (fails_run p x w (by rw [h.cst]; rfl) (by rw [h.cerr]; rfl) (h.free _) (h.free _)).mono fun e w' hh => ?_
  obtain ⟨he, rfl⟩ := hh
  exact ⟨he, (h.putSt 3).putErr x, (grownBy_set w p 40 _).trans (grownBy_set _ p 108 _)⟩
theorem given_owns {w : World} {base : Nat} {v : Value} {l : List Nat} (h : w.ownsRow base 5 1 v l.length (cellsOf l)) (hb : ∀ c ∈ l, c < 256) : ∃ A c, v = .slice A l.length c ∧ Given w A c l ∧ AtT w A 5 ∧ ∀ ad, A = some ad → base ≤ ad.block := by
  rcases h.2 with ⟨rfl, h0⟩ | ⟨g, cap, cur, rfl, hg, hh, hc, hm, _, ht⟩
  · obtain rfl := List.eq_nil_of_length_eq_zero h0
    exact ⟨none, 0, rfl, ⟨⟨hb, fun i hi => by simp at hi⟩, Nat.le_refl _, by omega, fun _ => rfl⟩, AtT.nil _ _, fun ad h => by cases h⟩
  · refine ⟨_, cap, rfl, ⟨⟨hb, fun i hi => ⟨g, 0, rfl, (Array.getElem?_eq_some_iff.1 hh).1, ?_⟩⟩, hc, by unfold maxLen at hm; omega, fun h => by cases h⟩, fun ad h => by cases h; exact ⟨_, hh⟩, fun ad h => by cases h; exact hg⟩
    rw [Go.Joins.cell_of_block hh, Nat.zero_add]
    have h1 : (cur.toList.take (l.length * 1))[i]? = (cellsOf l)[i]? := by rw [ht]
    rw [List.getElem?_take, if_pos (by omega), Array.getElem?_toList] at h1
    rw [h1]
    simp [cellsOf, List.getD, hi]
/-- bytes cloned -/
theorem clone_any (A : Option Addr) (c : Nat) (l : List Nat) (w : World) (h : Given w A c l) (hl : l.length ≤ 1000000) :
    Calls Try.prog 75 #[.slice A l.length c] w fun e w' => ∃ A' c', e = .returned (.slice A' l.length c') ∧ Given w' A' c' l ∧ AtT w' A' 5 ∧ (∀ ad, A' = some ad → w.heap.size ≤ ad.block) ∧ Below w.heap.size w w' :=
  (cloneB_any A c l w h hl).mono fun e w' hh => by
    obtain ⟨v, he, ho, hb⟩ := hh
    obtain ⟨A', c', rfl, h1, h2, h3⟩ := given_owns ho h.1.1
    exact ⟨A', c', he, h1, h2, h3, hb⟩
set_option maxRecDepth 100000 in
/-- it gets bytes -/
theorem gets_any (h : RAt w p R a1 c1 a2 c2 a3 c3) (A : Option Addr) (c : Nat) (l : List Nat) (hg : Given w A c l) (hl : l.length ≤ 1000000) :
    Calls Try.prog 82 #[.pointer (some ⟨p, 0, none⟩), .slice A l.length c] w fun e w' => e = .returned (.tuple #[]) ∧ (∃ b3 d3, RAt w' p (R.gets l) a1 c1 a2 c2 b3 d3) ∧ w.grownBy w' (some p) := by
  have HC := Hf.mk (clone_any A c l w hg hl)
  have HR := Hf.mk h
  clear h hg
  go_enter Try.func82, Try.ntmps82
  go_wp2_with (go_at_call 75; (with_reducible refine HC.out.mono ?_); rintro e w1 ⟨b3, d3, rfl, hg1, ht1, _, hb1⟩; have HG1 := Hf.mk hg1; have HT1 := Hf.mk ht1; have HB1 := Hf.mk hb1; have HR1 := Hf.mk (HR.out.below hb1); have q1 := HR1.out.cst; have q2 := HR1.out.cdat; have f1 := HR1.out.free 40; have f2 := HR1.out.free 107; clear hg1 ht1 hb1)
  go_end0
  refine ⟨rfl, ⟨b3, d3, ?_⟩, ?_⟩
  · have h1 := HR1.out.putSt 2
    have hs : w1.heap.size ≤ (w1.setCell ⟨p, 40, none⟩ (.int .u8 (2 : Nat))).heap.size := by simp [World.setCell]
    have hk : ∀ ad, b3 = some ad → (w1.setCell ⟨p, 40, none⟩ (.int .u8 (2 : Nat))).heap[ad.block]? = w1.heap[ad.block]? := fun ad ha => Below.heap_setCell w1 ⟨p, 40, none⟩ _ _ (HR1.out.ne HT1.out (by decide) ha)
    exact h1.putDat (HG1.out.keep hs hk) (HT1.out.keep hk)
  · exact (World.grownBy.trans ⟨HB1.out.os, HB1.out.tape, HB1.out.output, HB1.out.size, fun i hi _ => HB1.out.block i hi⟩ (grownBy_set w1 p 40 _)).trans (grownBy_set _ p 107 _)
end
end Go.Proofs.Ytaaepadhapfkoaa
