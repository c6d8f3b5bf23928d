/-
  Learn: what is compared.
-/
import Derived.Test.YtheafmjdncmpoaaLrnC
import Derived.Test.YtheafmjdncmpoaaPLearnScriptx1
namespace Go.Proofs.Ytheafmjdncmpoaa
set_option linter.unusedSimpArgs false
set_option linter.unusedVariables false
open Go.RowKit Go.Proofs.YtheafmjdncmpoaaW.PrintWords Go.Proofs.YtheafmjdncmpoaaW.PrintMore

abbrev kB : Kd Int := Kd.int .u8
/-- are bytes as bytes? -/
def sameB (l0 l1 : List Int) : Bool := (strOfNums l0).toList == (strOfNums l1).toList
theorem Drawn0.below {w w' : World} (h : Drawn0 w w') : Below w.heap.size w w' := by
  obtain ⟨n, rfl⟩ := h.out
  exact pw_below_drewN (Below.refl _ _) n
/-- bytes at hand -/
def BytesAt (w : World) (A : Option Addr) (c : Nat) (l : List Int) : Prop := Kd.C kB w A l.length l ∧ l.length ≤ c
theorem BytesAt.below {w w1 : World} {A : Option Addr} {c : Nat} {l : List Int} (h : BytesAt w A c l) (hb : Below w.heap.size w w1) : BytesAt w1 A c l := ⟨Kd.C_below h.1 hb, h.2⟩
theorem equal_any {A1 A2 : Option Addr} {c1 c2 : Nat} {l1 l2 : List Int} {w : World} (h1 : BytesAt w A1 c1 l1) (h2 : BytesAt w A2 c2 l2) :
    Calls Try.prog 85 #[.slice A1 l1.length c1, .slice A2 l2.length c2] w fun e w' => e = .returned (.bool (sameB l1 l2)) ∧ Below w.heap.size w w' :=
  (PLearnScript.bytes_Equal.calls A1 c1 l1 A2 c2 l2 (sameB l1 l2) w h1.1 h1.2 h2.1 h2.2 rfl).mono fun e u ⟨e1, e2⟩ => ⟨e1, e2.below⟩
theorem same_bytes {A1 A2 : Option Addr} {c1 c2 : Nat} {l1 l2 : List Int} {w : World} (h1 : BytesAt w A1 c1 l1) (h2 : BytesAt w A2 c2 l2) :
    Calls Try.prog 54 #[.slice A1 l1.length c1, .slice A2 l2.length c2] w fun e w' => e = .returned (.bool (sameB l1 l2)) ∧ Below w.heap.size w w' :=
  (PLearnScript.chartularykit_SameBytes.calls A1 c1 l1 A2 c2 l2 (sameB l1 l2) w h1.1 h1.2 h2.1 h2.2 rfl).mono fun e u ⟨e1, e2⟩ => ⟨e1, e2.below⟩
theorem unlike_any {A1 A2 : Option Addr} {c1 c2 : Nat} {l1 l2 : List Int} {w : World} (h1 : BytesAt w A1 c1 l1) (h2 : BytesAt w A2 c2 l2) :
    Calls Try.prog 84 #[.slice A1 l1.length c1, .slice A2 l2.length c2, .func (.func 85) #[] #[]] w fun e w' => e = .returned (.bool (!sameB l1 l2)) ∧ Below w.heap.size w w' := by
  have HE := Aside0.mk (equal_any h1 h2)
  obtain ⟨r, hr⟩ : ∃ r, sameB l1 l2 = r := ⟨_, rfl⟩
  rw [hr] at HE ⊢
  clear h1 h2 hr
  go_enter Try.func84, Try.ntmps84
  go_wp2_with ((with_reducible refine gate_val (n := 7) rfl ?_); refine goesC_ (some 10) rfl rfl Try.func85 (by kernel_rfl) rfl #[.slice A1 l1.length c1, .slice A2 l2.length c2] rfl (by simp [Act.eval]) rfl ?_; refine HE.out.mono ?_; rintro e w1 ⟨rfl, hb⟩; refine ⟨_, rfl, ?_⟩; have HB1 := Aside0.mk hb; clear hb)
  go_ret
  exact ⟨rfl, HB1.out⟩
set_option maxHeartbeats 1600000 in
theorem hear1_any (n d : Int) (A : Option Addr) (c : Nat) (l : List Int) (gb gd : Nat) (bn bd : Int) (A2 : Option Addr) (c2 : Nat) (l2 : List Int) (w : World) (h1 : BytesAt w A c l) (h2 : BytesAt w A2 c2 l2)
    (q0 : w.cell? ⟨gb, 0, none⟩ = some (.int .i64 bn)) (q1 : w.cell? ⟨gb, 1, none⟩ = some (.int .i64 bd)) (q2 : w.cell? ⟨gd, 0, none⟩ = some (.slice A2 l2.length c2)) :
    Calls Try.prog 83 #[.agg #[.int .i64 n, .int .i64 d, .slice A l.length c], .pointer (some ⟨gb, 0, none⟩), .pointer (some ⟨gd, 0, none⟩)] w fun e w' => e = .returned (.bool ((n == bn && d == bd) && !sameB l l2)) ∧ Below w.heap.size w w' := by
  have z0 : gb < w.heap.size := World.block_lt_of_cell? w _ q0
  have z1 : gd < w.heap.size := World.block_lt_of_cell? w _ q2
  have HU := Aside0.mk (fun u (hb : Below w.heap.size w u) => unlike_any (h1.below hb) (h2.below hb))
  have HB := Aside0.mk ((Below.refl w.heap.size w).alloc (o := .cells #[.int .i64 n, .int .i64 d, .slice A l.length c] 90) (Nat.le_refl _))
  obtain ⟨r, hr⟩ : ∃ r, (!sameB l l2) = r := ⟨_, rfl⟩
  rw [hr] at HU ⊢
  clear h1 h2 hr
  by_cases e1 : n = bn
  · by_cases e2 : d = bd
    · subst e1
      subst e2
      rw [show ((n == n && d == d) && r) = r by simp]
      go_enter Try.func83, Try.ntmps83
      go_wp2_with (go_at_call 84; (with_reducible refine (HU.out _ HB.out).mono ?_); rintro e u ⟨rfl, hb⟩; have HB2 := Aside0.mk (below_step HB.out hb); clear hb)
      go_ret
      exact ⟨rfl, HB2.out⟩
    · subst e1
      have e2' : (d == bd) = false := by simpa using e2
      rw [show ((n == n && d == bd) && r) = false by simp [e2]]
      go_enter Try.func83, Try.ntmps83
      go_wp2
      go_ret
      exact ⟨rfl, HB.out⟩
  · have e1' : (n == bn) = false := by simpa using e1
    rw [show ((n == bn && d == bd) && r) = false by simp [e1]]
    go_enter Try.func83, Try.ntmps83
    go_wp2
    go_ret
    exact ⟨rfl, HB.out⟩
theorem hear2_any (n d : Int) (A : Option Addr) (c l : Nat) (gb : Nat) (bn bd : Int) (w : World)
    (q0 : w.cell? ⟨gb, 0, none⟩ = some (.int .i64 bn)) (q1 : w.cell? ⟨gb, 1, none⟩ = some (.int .i64 bd)) :
    Calls Try.prog 87 #[.agg #[.int .i64 n, .int .i64 d, .slice A l c], .pointer (some ⟨gb, 0, none⟩)] w fun e w' => e = .returned (.bool (n == bn && d == bd)) ∧ Below w.heap.size w w' := by
  have z0 : gb < w.heap.size := World.block_lt_of_cell? w _ q0
  have HB := Aside0.mk ((Below.refl w.heap.size w).alloc (o := .cells #[.int .i64 n, .int .i64 d, .slice A l c] 90) (Nat.le_refl _))
  by_cases e1 : n = bn
  · by_cases e2 : d = bd
    · subst e1
      subst e2
      rw [show (n == n && d == d) = true by simp]
      go_enter Try.func87, Try.ntmps87
      go_wp2
      go_ret
      exact ⟨rfl, HB.out⟩
    · subst e1
      have e2' : (d == bd) = false := by simpa using e2
      rw [show (n == n && d == bd) = false by simp [e2]]
      go_enter Try.func87, Try.ntmps87
      go_wp2
      go_ret
      exact ⟨rfl, HB.out⟩
  · have e1' : (n == bn) = false := by simpa using e1
    rw [show (n == bn && d == bd) = false by simp [e1]]
    go_enter Try.func87, Try.ntmps87
    go_wp2
    go_ret
    exact ⟨rfl, HB.out⟩
end Go.Proofs.Ytheafmjdncmpoaa
