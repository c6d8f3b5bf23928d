/-
  Quorum: the functions that look at one slot.
-/
import Derived.Test.YtheafmjdncmpoaaQuoK
import Derived.Deep.QuietTactic
import Derived.BigQuiet
namespace Go.Proofs.Ytheafmjdncmpoaa
set_option linter.unusedSimpArgs false
set_option linter.unusedVariables false
open Go.RowKit Go.Proofs.YtheafmjdncmpoaaW.PrintWords

theorem of1_any (b o c : Nat) (a n : Int) (w : World) (h1 : w.cell? ⟨b, o, none⟩ = some (.int .i64 a)) (h2 : w.cell? ⟨c, 0, none⟩ = some (.int .i64 n)) :
    Calls Try.prog 96 #[.pointer (some ⟨b, o, none⟩), .pointer (some ⟨c, 0, none⟩)] w fun e w' => e = .returned (.bool (a == n)) ∧ Below w.heap.size w w' := by
  go_enter Try.func96, Try.ntmps96
  go_wp2_with fail
  go_quiet (fail)
  go_wp2
  go_ret
  exact ⟨rfl, pw_below_drewN (Below.refl _ _) _⟩
theorem met_any (b o : Nat) (v : Option Addr) (w : World) (h1 : w.cell? ⟨b, o + 2, none⟩ = some (.pointer v)) :
    Calls Try.prog 71 #[.pointer (some ⟨b, o, none⟩)] w fun e w' => e = .returned (.bool v.isSome) ∧ w' = w := by
  go_enter Try.func71, Try.ntmps71
  cases v <;> (go_wp2; go_ret; exact ⟨rfl, rfl⟩)
theorem lost1_any (b o : Nat) (a : Int) (w : World) (h1 : w.cell? ⟨b, o + 1, none⟩ = some (.int .i64 a)) :
    Calls Try.prog 79 #[.pointer (some ⟨b, o, none⟩)] w fun e w' => e = .returned (.bool (a != 1)) ∧ w' = w := by
  go_enter Try.func79, Try.ntmps79
  go_wp2
  go_ret
  exact ⟨rfl, rfl⟩
theorem by1_none (b o c : Nat) (w : World) (h1 : w.cell? ⟨b, o + 2, none⟩ = some (.pointer none)) :
    Calls Try.prog 97 #[.pointer (some ⟨b, o, none⟩), .pointer (some ⟨c, 0, none⟩)] w fun e w' => e = .returned (.bool false) ∧ Below w.heap.size w w' := by
  go_enter Try.func97, Try.ntmps97
  go_wp2_with fail
  go_quiet (fail)
  go_wp2
  go_ret
  exact ⟨rfl, pw_below_drewN (Below.refl _ _) _⟩
theorem by1_some (b o c g : Nat) (v n : Int) (w : World) (h1 : w.cell? ⟨b, o + 2, none⟩ = some (.pointer (some ⟨g, 0, none⟩))) (h2 : w.cell? ⟨g, 0, none⟩ = some (.int .i64 v)) (h3 : w.cell? ⟨c, 0, none⟩ = some (.int .i64 n)) :
    Calls Try.prog 97 #[.pointer (some ⟨b, o, none⟩), .pointer (some ⟨c, 0, none⟩)] w fun e w' => e = .returned (.bool (v == n)) ∧ Below w.heap.size w w' := by
  go_enter Try.func97, Try.ntmps97
  go_wp2_with fail
  go_quiet (fail)
  go_wp2
  go_ret
  exact ⟨rfl, pw_below_drewN (Below.refl _ _) _⟩
/-- may a node be? -/
def okNode (n : Int) : Bool := decide (1 ≤ n ∧ n ≤ 64)
theorem node_any (n : Int) (w : World) : Calls Try.prog 66 #[.int .i64 n] w fun e w' => e = .returned (.bool (okNode n)) ∧ w' = w := by
  unfold okNode
  by_cases h1 : 1 ≤ n
  · by_cases h2 : n ≤ 64
    · go_enter Try.func66, Try.ntmps66
      go_wp2
      go_ret
      exact ⟨by simp [h1, h2], rfl⟩
    · go_enter Try.func66, Try.ntmps66
      go_wp2
      go_ret
      exact ⟨by simp [h1, h2], rfl⟩
  · go_enter Try.func66, Try.ntmps66
    go_wp2
    go_ret
    exact ⟨by simp [h1]; omega, rfl⟩
theorem of_any (n : Int) (w : World) : Calls Try.prog 68 #[.int .i64 n] w fun e w' => e = .returned (.func (.func 96) #[] #[.pointer (some ⟨w.heap.size, 0, none⟩)]) ∧ w' = w.alloc (.cells #[.int .i64 n] 3) := by
  go_enter Try.func68, Try.ntmps68
  go_wp2
  go_ret
  exact ⟨rfl, rfl⟩
theorem by_any (n : Int) (w : World) : Calls Try.prog 73 #[.int .i64 n] w fun e w' => e = .returned (.func (.func 97) #[] #[.pointer (some ⟨w.heap.size, 0, none⟩)]) ∧ w' = w.alloc (.cells #[.int .i64 n] 3) := by
  go_enter Try.func73, Try.ntmps73
  go_wp2
  go_ret
  exact ⟨rfl, rfl⟩
theorem majority_any (n : Int) (w : World) : Calls Try.prog 35 #[.int .i64 n] w fun e w' => e = .returned (.int .i64 (if okNode n then n / 2 + 1 else 0)) ∧ w' = w := by
  cases h : okNode n with
  | true =>
    have k : 1 ≤ n ∧ n ≤ 64 := by unfold okNode at h; exact of_decide_eq_true h
    have H := Lib.hid h
    clear h
    go_enter Try.func35, Try.ntmps35
    go_wp2_with (go_at_call 66; (with_reducible refine (node_any _ _).mono ?_); rintro e w1 ⟨rfl, rfl⟩; rw [H.out])
    go_ret
    exact ⟨rfl, rfl⟩
  | false =>
    have H := Lib.hid h
    clear h
    go_enter Try.func35, Try.ntmps35
    go_wp2_with (go_at_call 66; (with_reducible refine (node_any _ _).mono ?_); rintro e w1 ⟨rfl, rfl⟩; rw [H.out])
    go_ret
    exact ⟨rfl, rfl⟩
theorem none_nil (w : World) : Calls Try.prog 70 #[.pointer none] w fun e w' => e = .returned (.bool true) ∧ w' = w := by
  go_enter Try.func70, Try.ntmps70
  go_wp2
  go_ret
  exact ⟨rfl, rfl⟩
theorem none_at (b : Nat) (need : Int) (w : World) (h : w.cell? ⟨b, 1, none⟩ = some (.int .i64 need)) : Calls Try.prog 70 #[.pointer (some ⟨b, 0, none⟩)] w fun e w' => e = .returned (.bool (need == 0)) ∧ w' = w := by
  go_enter Try.func70, Try.ntmps70
  go_wp2
  go_ret
  exact ⟨rfl, rfl⟩
/-- the operation calls what lies in slot n -/
theorem gate_val {P : Program} {ops : Array Oper} {Q : Exit → Act → World → Prop} {o : Oper} {rest : List Oper} {a : Act} {W : World} {n : Tmp} {az : Array Operand} {ts : Array TypeId} (_ho : o.op = .call { callee := .value (.tmp n), args := az, argTypes := ts }) (h : wpList P ops Q (o :: rest) a W) : wpList P ops Q (o :: rest) a W := h
/-- a call of a function value with captured variables, of which the function is known -/
theorem goesC_ {P : Program} {ops : Array Oper} {Q : Exit → Act → World → Prop} {rest : List Oper} {oi : Oper} {a : Act} {w : World} (N : Option Tmp) (hd : oi.dst = N) (hg : oi.guard = none) {f : FuncId} {fn : Func} {cap : Array Value} {x : Operand} {az : Array Operand} {ts : Array TypeId} (hf : P.funcs[f]? = some fn) (hname : (fn.name == "runtime.NumGoroutine") = false) (hb : fn.body.isSome = true) (args : Array Value)
    (hop : oi.op = .call { callee := .value x, args := az, argTypes := ts }) (hargs : az.map a.eval = args) (hx : a.eval x = .func (.func f) #[] cap)
    (h : Calls P f (args ++ cap) w fun e w' => ∃ v, e = .returned v ∧ wpList P ops Q rest (a.put N v) w') : wpList P ops Q (oi :: rest) a w := by
  refine wpList_plain hg fun K hK => ?_
  have h1 : fn.name ≠ "runtime.NumGoroutine" := by simpa using hname
  have hrun : (execOp a.eval oi).run P w = .ok (.enter f (args ++ cap)) w := by
    obtain ⟨c, hc⟩ := Option.isSome_iff_exists.1 hb
    unfold execOp
    simp [hop, resolve, hx, Deferred.ofValue, invoke, hargs, callFunc, hf, h1, hc]
  unfold Oper.wp
  rw [hrun, Oper.upon_enter]
  refine h.mono fun e w'' hh => ?_
  obtain ⟨v, rfl, hk⟩ := hh
  subst hd
  exact hK _ _ hk
/-- the first of so many of which something is so -/
def firstN (P : Nat → Bool) (n : Nat) : Option Nat := (List.range n).find? P
theorem firstN_none {P : Nat → Bool} {n : Nat} (h : ∀ j, j < n → P j = false) : firstN P n = none := by
  unfold firstN
  rw [List.find?_eq_none]
  intro x hx
  rw [h x (List.mem_range.1 hx)]
  simp
theorem firstN_some {P : Nat → Bool} {n k : Nat} (h : ∀ j, j < k → P j = false) (hk : k < n) (hp : P k = true) : firstN P n = some k := by
  unfold firstN
  rw [List.find?_range_eq_some]
  exact ⟨hp, by simpa using hk, fun j hj => by simp [h j hj]⟩
set_option maxHeartbeats 1600000 in
set_option maxRecDepth 100000 in
theorem find_row (f : FuncId) (fn : Func) (cap : Array Value) (g n c : Nat) (P : Nat → Bool) (w : World) (hn : n ≤ 9223372036854775807) (hfn : Try.prog.funcs[f]? = some fn) (hname : (fn.name == "runtime.NumGoroutine") = false) (hbody : fn.body.isSome = true)
    (H : ∀ w', Below w.heap.size w w' → ∀ i, i < n → Calls Try.prog f (#[.pointer (some ⟨g, i * 3, none⟩)] ++ cap) w' fun e u => e = .returned (.bool (P i)) ∧ Below w'.heap.size w' u) :
    Calls Try.prog 67 #[.slice (some ⟨g, 0, none⟩) n c, .func (.func f) #[] cap] w fun e w' => e = .returned (.pointer ((firstN P n).map fun i => ⟨g, i * 3, none⟩)) ∧ Below w.heap.size w w' := by
  have HH := Lib.hid H
  clear H
  go_enter Try.func67, Try.ntmps67
  go_wp2
  go_loopw [8] (fun i wr => ∃ k : Nat, k ≤ n ∧ i = .int .i64 k ∧ Aside0 (∀ j, j < k → P j = false) ∧ Aside0 (Below w.heap.size w wr)) (fun i _ => n - (intOf i).toNat)
  case atStart => exact ⟨0, by omega, rfl, ⟨fun j h => absurd h (by omega)⟩, ⟨Below.refl _ _⟩⟩
  case round =>
    obtain ⟨k, hk, rfl, HP, HB⟩ := hrel
    by_cases hgo : k < n
    · have HC := Aside0.mk (HH wr HB.out k hgo)
      clear HH
      obtain ⟨b, hb⟩ : ∃ b, P k = b := ⟨_, rfl⟩
      rw [hb] at HC
      have HPk := Aside0.mk hb
      clear hb
      cases b with
      | true =>
        go_wp2_with ((with_reducible refine gate_val (n := 11) rfl ?_); refine goesC_ (some 15) rfl rfl hfn hname hbody #[.pointer (some ⟨g, k * 3, none⟩)] rfl (by simp [Act.eval, add_plain]) rfl ?_; refine HC.out.mono ?_; rintro e w1 ⟨rfl, hb⟩; refine ⟨_, rfl, ?_⟩; have HB1 := Aside0.mk (below_step HB.out hb); clear hb)
        go_ret
        exact ⟨by rw [firstN_some HP.out hgo HPk.out]; simp [add_plain], HB1.out⟩
      | false =>
        go_wp2_with ((with_reducible refine gate_val (n := 11) rfl ?_); refine goesC_ (some 15) rfl rfl hfn hname hbody #[.pointer (some ⟨g, k * 3, none⟩)] rfl (by simp [Act.eval, add_plain]) rfl ?_; refine HC.out.mono ?_; rintro e w1 ⟨rfl, hb⟩; refine ⟨_, rfl, ?_⟩; have HB1 := Aside0.mk (below_step HB.out hb); clear hb)
        go_roundw
        case rel => exact ⟨k + 1, by omega, by go_num, ⟨fun j hj => by
          by_cases h : j = k
          · subst h; exact HPk.out
          · exact HP.out j (by omega)⟩, HB1⟩
        case measure => simp [intOf]; omega
    · obtain rfl : k = n := by omega
      go_wp2
      go_ret
      exact ⟨by rw [firstN_none HP.out]; rfl, HB.out⟩
end Go.Proofs.Ytheafmjdncmpoaa
