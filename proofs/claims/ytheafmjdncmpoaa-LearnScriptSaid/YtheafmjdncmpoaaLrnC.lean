/-
  Learn: count, over what was heard of all nodes.
-/
import Derived.Test.YtheafmjdncmpoaaQuoC
namespace Go.Proofs.Ytheafmjdncmpoaa
set_option linter.unusedSimpArgs false
set_option linter.unusedVariables false
open Go.RowKit Go.Proofs.YtheafmjdncmpoaaW.PrintWords Go.Proofs.YtheafmjdncmpoaaW.PrintMore

/-- what lies in memory of what was heard of a node -/
structure Hc where
  n : Int
  d : Int
  A : Option Addr
  l : Nat
  c : Nat
def Hc.val (h : Hc) : Value := .agg #[.int .i64 h.n, .int .i64 h.d, .slice h.A h.l h.c]
def HcAt (w : World) (g o : Nat) (h : Hc) : Prop :=
  w.cell? ⟨g, o, none⟩ = some (.int .i64 h.n) ∧ w.cell? ⟨g, o + 1, none⟩ = some (.int .i64 h.d) ∧ w.cell? ⟨g, o + 2, none⟩ = some (.slice h.A h.l h.c)
theorem HcAt.below {w w1 : World} {g o : Nat} {h : Hc} (hh : HcAt w g o h) (hb : Below w.heap.size w w1) : HcAt w1 g o h :=
  ⟨pw_cell_below hb hh.1, pw_cell_below hb hh.2.1, pw_cell_below hb hh.2.2⟩
set_option maxHeartbeats 1600000 in
set_option maxRecDepth 100000 in
theorem count81 (f : FuncId) (fn : Func) (cap : Array Value) (g n c : Nat) (P : Nat → Bool) (E : Nat → Hc) (w : World) (hn : n ≤ 1000) (hfn : Try.prog.funcs[f]? = some fn) (hname : (fn.name == "runtime.NumGoroutine") = false) (hbody : fn.body.isSome = true)
    (hE : ∀ i, i < n → HcAt w g (3 + i * 3) (E i))
    (H : ∀ w', Below w.heap.size w w' → ∀ i, i < n → Calls Try.prog f (#[(E i).val] ++ cap) w' fun e u => e = .returned (.bool (P i)) ∧ Below w'.heap.size w' u) :
    Calls Try.prog 81 #[.slice (some ⟨g, 3, none⟩) n c, .func (.func f) #[] cap] w fun e w' => e = .returned (.int .i64 (countN P n)) ∧ Below w.heap.size w w' := by
  have HH := Lib.hid H
  have HE := Lib.hid hE
  clear H hE
  go_enter Try.func81, Try.ntmps81
  go_wp2
  go_loopw [5, 7, 10] (fun v b i wr => ∃ k : Nat, k ≤ n ∧ i = .int .i64 k ∧ v = .int .i64 (countN P k) ∧ Aside0 (Below w.heap.size w wr)) (fun _ _ i _ => n - (intOf i).toNat)
  case atStart => exact ⟨0, by omega, rfl, rfl, ⟨Below.refl _ _⟩⟩
  case round =>
    obtain ⟨k, hk, rfl, rfl, HB⟩ := hrel
    have hcl := countN_le P k
    by_cases hgo : k < n
    · have HC := Aside0.mk (fun u (hb : Below wr.heap.size wr u) => HH u (below_step HB.out hb) k hgo)
      obtain ⟨q0, q1, q2⟩ := (HE k hgo).below HB.out
      clear HH HE
      have HK : Aside0 (countN P (k + 1) = countN P k + (if P k then 1 else 0)) := ⟨rfl⟩
      obtain ⟨b, hb⟩ : ∃ b, P k = b := ⟨_, rfl⟩
      obtain ⟨⟨hn', hd', hA', hl', hc'⟩, hh⟩ : ∃ h, E k = h := ⟨_, rfl⟩
      rw [hh] at q0 q1 q2 HC
      simp only at q0 q1 q2
      rw [hb] at HC HK
      clear hb hh
      obtain ⟨m, hm⟩ : ∃ m, countN P k = m := ⟨_, rfl⟩
      rw [hm] at HK hcl ⊢
      clear hm
      cases b with
      | true =>
        go_wp2_with ((with_reducible refine gate_val (n := 14) rfl ?_); refine goesC_ (some 16) rfl rfl hfn hname hbody #[.agg #[.int .i64 hn', .int .i64 hd', .slice hA' hl' hc']] rfl (by simp [Act.eval]) rfl ?_; refine (HC.out _ ((Below.refl _ _).alloc (Nat.le_refl _) _)).mono ?_; rintro e w1 ⟨rfl, hb⟩; refine ⟨_, rfl, ?_⟩; have HB1 := Aside0.mk (below_step HB.out (below_step ((Below.refl _ _).alloc (Nat.le_refl _) _) hb)); clear hb)
        go_roundw
        case rel => exact ⟨k + 1, by omega, by go_num, by rw [HK.out]; go_num, HB1⟩
        case measure => simp [intOf]; omega
      | false =>
        go_wp2_with ((with_reducible refine gate_val (n := 14) rfl ?_); refine goesC_ (some 16) rfl rfl hfn hname hbody #[.agg #[.int .i64 hn', .int .i64 hd', .slice hA' hl' hc']] rfl (by simp [Act.eval]) rfl ?_; refine (HC.out _ ((Below.refl _ _).alloc (Nat.le_refl _) _)).mono ?_; rintro e w1 ⟨rfl, hb⟩; refine ⟨_, rfl, ?_⟩; have HB1 := Aside0.mk (below_step HB.out (below_step ((Below.refl _ _).alloc (Nat.le_refl _) _) hb)); clear hb)
        go_roundw
        case rel => exact ⟨k + 1, by omega, by go_num, by rw [HK.out]; rfl, HB1⟩
        case measure => simp [intOf]; omega
    · obtain rfl : k = n := by omega
      go_wp2
      go_ret
      exact ⟨rfl, HB.out⟩
end Go.Proofs.Ytheafmjdncmpoaa
