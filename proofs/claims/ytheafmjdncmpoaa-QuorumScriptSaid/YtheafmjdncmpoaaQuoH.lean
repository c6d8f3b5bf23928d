/-
  Quorum: the document's New answers as the program's.
-/
import Derived.Test.YtheafmjdncmpoaaQuoG
import Derived.Test.YtheafmjdncmpoaaQuoR
import Derived.Deep.RegionLaw
import Derived.BigQuiet
import Derived.Deep.QuietTactic
namespace Go.Proofs.Ytheafmjdncmpoaa
set_option linter.unusedSimpArgs false
set_option linter.unusedVariables false
open Go.RowKit Go.Proofs.YtheafmjdncmpoaaW.PrintWords Go.Proofs.YtheafmjdncmpoaaW.PrintMore

/-- append of a row onto a slice that has no room: a new block -/
theorem step_append_copy {P : Program} {ops : Array Oper} {o : Oper} {a : Act} {w : World} {K : Act → World → Prop} {Q : Exit → Act → World → Prop} {E : Prop}
    (hg : o.guard = none) (s x : Operand) (t : TypeId) (hop : o.op = Op.call { callee := Callee.builtin Builtin.append, args := #[s, x], argTypes := #[t, t] })
    (e : TypeId) (i : TypeInfo) (z : Value) (bytes : Nat) (h1 : P.underlying t = some (.slice e)) (h2 : P.info? e = some i) (h3 : i.zero = some z) (h4 : i.size = 1) (h5 : i.bytes = bytes)
    (b0 : Addr) (hs : a.eval s = .slice (some b0) 0 0) (ad : Addr) (m c : Nat) (news : List Value) (hx : a.eval x = .slice (some ad) m c) (hn : news.length = m) (hc : ∀ j u, news[j]? = some u → w.cell? (ad.add j) = some u)
    (hm : 0 < m) (b1 : m ≤ 1000) (b2 : bytes ≤ 1000)
    (hK : ∀ (cap : Nat) (cs : Array Value), (∀ (j : Nat) (u : Value), news[j]? = some u → cs[j]? = some u) → K (a.put o.dst (.slice (some ⟨w.heap.size, 0, none⟩) m cap)) (w.drew.alloc (.cells cs e))) :
    if Region.wanted o (yielded ops a.tmps) = true then Oper.wp P o a w K Q else E := by
  have hw : Region.wanted o (yielded ops a.tmps) = true := by simp [Region.wanted, hg]
  rw [if_pos hw]
  have hb : m * bytes ≤ 140737488355328 := Nat.le_trans (Nat.mul_le_mul b1 b2) (by omega)
  have hrun := run_append_grow (P := P) w t o.type e i z h1 h2 h3 b0 0 0 [] (by simp) (fun j v hj => by simp at hj) ad m c news (by rw [h4]; omega) hc (by omega) (by omega) (growslice_fits (by omega) (by rw [h5]; simpa using hb))
  simp only [Nat.zero_add] at hrun
  unfold Oper.wp
  simp [execOp, hop, resolve, invoke, builtin, hs, hx, hrun, Result.andThen]
  refine hK _ _ fun j u hj => ?_
  have hj' := (List.getElem?_eq_some_iff.1 hj).1
  rw [Array.getElem?_append_left (by simpa using hj')]
  simpa using hj
theorem newS_get (l : List Int) : ∀ k S, newS l k = some S → ∀ j, j < k → S.getD j zQ = ⟨l.getD j 0, 0, none⟩
  | k + 1, S, h, j, hj => by
    unfold newS at h
    obtain ⟨T, hT, h⟩ := Option.bind_eq_some_iff.1 h
    have hl := newS_len l k T hT
    split at h
    · injection h with h
      subst h
      by_cases e : j < k
      · rw [List.getD_eq_getElem?_getD, List.getElem?_append_left (by omega), ← List.getD_eq_getElem?_getD]
        exact newS_get l k T hT j e
      · obtain rfl : j = k := by omega
        rw [List.getD_eq_getElem?_getD, List.getElem?_append_right (by omega), hl]
        simp
    · cases h
theorem newS_slot (l : List Int) {k : Nat} {S : List Qs} (h : newS l k = some S) (m : Int) : (slotN S m = none ↔ ∀ j, j < k → (l.getD j 0 == m) = false) := by
  have hl := newS_len l k S h
  have hg := newS_get l k S h
  unfold slotN firstN
  rw [List.find?_eq_none, hl]
  constructor
  · intro h1 j hj
    have := h1 j (List.mem_range.2 hj)
    rw [hg j hj] at this
    simpa using this
  · intro h1 j hj
    have hj' := List.mem_range.1 hj
    rw [hg j hj']
    simpa using h1 j hj'
/-- what the document's New answers -/
def RNewAns (l : List Int) (need : Int) (w : World) (e : Ending) (w' : World) : Prop :=
  match newS l l.length with
  | none => e = .returned (.tuple #[.pointer none, .int .i64 2]) ∧ Below w.heap.size w w'
  | some S => if need < 1 ∨ (l.length : Int) < need then e = .returned (.tuple #[.pointer none, .int .i64 2]) ∧ Below w.heap.size w w'
      else ∃ r, e = .returned (.tuple #[.pointer (some ⟨r.g, 0, none⟩), .int .i64 0]) ∧ Below w.heap.size w w' ∧ RQ w' w.heap.size r S need
theorem RNewAns.bad {l : List Int} {need : Int} {w w' : World} (h : newS l l.length = none ∨ need < 1 ∨ (l.length : Int) < need) (hb : Below w.heap.size w w') : RNewAns l need w (.returned (.tuple #[.pointer none, .int .i64 2])) w' := by
  unfold RNewAns
  cases hc : newS l l.length with
  | none => exact ⟨rfl, hb⟩
  | some S =>
    simp only
    rw [if_pos (by rcases h with h | h; rw [hc] at h; cases h; exact h)]
    exact ⟨trivial, hb⟩
theorem look_alloc (w : World) (o : Obj) (k : Nat) : (w.alloc o).heap[k]? = if k = w.heap.size then some o else w.heap[k]? := by
  unfold World.alloc
  simp only [Array.getElem?_push]
theorem look_pos {w : World} {o : Obj} {k : Nat} (h : k = w.heap.size) : (w.alloc o).heap[k]? = some o := by rw [look_alloc, if_pos h]
theorem look_neg {w : World} {o : Obj} {k : Nat} (h : k ≠ w.heap.size) : (w.alloc o).heap[k]? = w.heap[k]? := by rw [look_alloc, if_neg h]
theorem sz_alloc (w : World) (o : Obj) : (w.alloc o).heap.size = w.heap.size + 1 := by simp
theorem look_drew (w : World) : w.drew.heap = w.heap := rfl
theorem made_map {S : List Qs} {n : Nat} {v : Value} (f : Qs → Value) (h : S.length = n) (hf : ∀ i, i < n → f (S.getD i zQ) = v) : (S.map f).toArray = madeCells #[v] n := by
  apply Array.ext'
  apply List.ext_getElem
  · simp [madeCells, h]
  · intro i h1 h2
    have hi : i < n := by simpa [h] using h1
    have := hf i hi
    rw [List.getD_eq_getElem?_getD, List.getElem?_eq_getElem (by omega)] at this
    simp [madeCells]
    have h0 : i % 1 = 0 := Nat.mod_one i
    simpa [h0] using this
theorem RNewAns.good {l : List Int} {need : Int} {w W : World} {S : List Qs} {g s b o c : Nat} {mi mb cs : Array Value}
    (hg : W.heap[g]? = some (.cells #[.slice (some ⟨s, 0, none⟩) l.length c, .int .i64 need, .slice (some ⟨b, 0, none⟩) l.length l.length, .slice (some ⟨o, 0, none⟩) l.length l.length] 114 (0, 0)))
    (hs : W.heap[s]? = some (.cells cs 3 (0, 0))) (hb : W.heap[b]? = some (.cells mi 3 (0, 0))) (ho : W.heap[o]? = some (.cells mb 4 (0, 0)))
    (hne : s ≠ b) (h1 : w.heap.size ≤ g) (h2 : w.heap.size ≤ s) (h3 : w.heap.size ≤ b) (h4 : w.heap.size ≤ o)
    (hS : newS l l.length = some S) (hn : 1 ≤ need ∧ need ≤ l.length) (hmi : madeCells #[Value.int .i64 0] l.length = mi) (hmb : madeCells #[Value.bool false] l.length = mb)
    (hcs : ∀ (j : Nat) (u : Value), (l.map fun x => Value.int .i64 x)[j]? = some u → cs[j]? = some u) (hB : Below w.heap.size w W) :
    RNewAns l need w (.returned (.tuple #[.pointer (some ⟨g, 0, none⟩), .int .i64 0])) W := by
  unfold RNewAns
  rw [hS]
  simp only
  rw [if_neg (by omega)]
  have hl := newS_len l _ S hS
  have hG := newS_get l _ S hS
  refine ⟨⟨g, s, b, o, c⟩, rfl, hB, ⟨by rw [hl]; exact hg, ⟨cs, hs, fun i hi => ?_⟩, ?_, ?_, hne, h1, h2, h3, h4, fun i hi => ?_⟩⟩
  · rw [hl] at hi
    rw [hG i hi]
    refine hcs i _ ?_
    rw [List.getElem?_map, List.getD_eq_getElem?_getD, List.getElem?_eq_getElem hi]
    rfl
  · rw [made_map (v := .int .i64 0) byV hl (fun i hi => by rw [hG i hi]; rfl), hmi]; exact hb
  · rw [made_map (v := .bool false) goneV hl (fun i hi => by rw [hG i hi]; rfl), hmb]; exact ho
  · rw [hl] at hi
    rw [hG i hi]
    exact ⟨.inl rfl, fun v hv => by cases hv⟩
set_option maxHeartbeats 6400000 in
set_option maxRecDepth 100000 in
theorem rnew_any (A : Option Addr) (cap : Nat) (l : List Int) (need : Int) (w : World) (hr : Kd.C kI w A l.length l) (hl : l.length ≤ 1000) :
    Calls Try.prog 33 #[.slice A l.length cap, .int .i64 need] w (RNewAns l need w) := by
  have HR := Aside0.mk hr
  clear hr
  by_cases h1 : need < 1
  · go_enter Try.func33, Try.ntmps33
    go_wp2
    exact bodyPost_ret (v := .tuple #[.pointer none, .int .i64 2]) (by simp [results, Try.results33, go_sem]) rfl (RNewAns.bad (.inr (.inl h1)) (Below.refl _ _))
  · have h1' : 1 ≤ need := by omega
    clear h1
    by_cases h2 : (l.length : Int) < need
    · go_enter Try.func33, Try.ntmps33
      go_wp2
      exact bodyPost_ret (v := .tuple #[.pointer none, .int .i64 2]) (by simp [results, Try.results33, go_sem]) rfl (RNewAns.bad (.inr (.inr h2)) (Below.refl _ _))
    · have h2' : need ≤ (l.length : Int) := by omega
      clear h2
      obtain ⟨ad, rfl, _⟩ := cell_get HR.out 0 (by omega)
      go_enter Try.func33, Try.ntmps33
      go_wp2
      go_loopw [6, 7] (fun i j wr => ∃ (k : Nat) (S : List Qs), k ≤ l.length ∧ i = .int .i64 k ∧ Aside0 (newS l k = some S) ∧ Aside0 (Below w.heap.size w wr)) (fun i _ _ => l.length - (intOf i).toNat)
      case atStart => exact ⟨0, [], by omega, rfl, ⟨rfl⟩, ⟨Below.refl _ _⟩⟩
      case round =>
        obtain ⟨k, S, hk, rfl, HS, HB⟩ := hrel
        by_cases hgo : k < l.length
        · obtain ⟨ad', e', q0⟩ := cell_get (Kd.C_below HR.out HB.out) k hgo
          obtain rfl := Option.some.inj e'
          clear e'
          have HNX : Aside0 (newS l (k + 1) = (if okNode (l.getD k 0) = true ∧ slotN S (l.getD k 0) = none then some (S ++ [⟨l.getD k 0, 0, none⟩]) else none)) := ⟨by rw [newS, HS.out]; rfl⟩
          have HSL := Aside0.mk (newS_slot l HS.out (l.getD k 0))
          obtain ⟨m, hm⟩ : ∃ m, l.getD k 0 = m := ⟨_, rfl⟩
          have HM := Aside0.mk hm
          rw [hm] at q0 HNX HSL
          clear hm
          have HK := Aside0.mk (rnode_any m wr)
          cases hok : okNode m with
          | false =>
            rw [hok] at HK
            rw [if_neg (by simp [hok])] at HNX
            clear hok
            go_wp2_with (go_at_call 69; (with_reducible refine HK.out.mono ?_); rintro e w1 ⟨rfl, hw⟩; have hw := hw.symm; subst hw)
            exact bodyPost_ret (v := .tuple #[.pointer none, .int .i64 2]) (by simp [results, Try.results33, go_sem]) rfl (RNewAns.bad (.inl (newS_none l HNX.out l.length (by omega))) HB.out)
          | true =>
            rw [hok] at HK HNX
            clear hok
            go_wp2_with (go_at_call 69; (with_reducible refine HK.out.mono ?_); rintro e w1 ⟨rfl, hw⟩; have hw := hw.symm; subst hw)
            go_loopw [7] (fun j wr2 => ∃ q : Nat, q ≤ k ∧ j = .int .i64 q ∧ Aside0 (∀ j, j < q → (l.getD j 0 == m) = false) ∧ Aside0 (Below w.heap.size w wr2)) (fun j _ => k - (intOf j).toNat)
            case atStart => exact ⟨0, by omega, rfl, ⟨fun j hj => absurd hj (by omega)⟩, HB⟩
            case round =>
              clear HB HK q0
              obtain ⟨q, hq, rfl, HP, HB⟩ := hrel
              by_cases hgo2 : q < k
              · obtain ⟨ad1, e1, q1⟩ := cell_get (Kd.C_below HR.out HB.out) k hgo
                obtain rfl := Option.some.inj e1
                obtain ⟨ad2, e2, q2⟩ := cell_get (Kd.C_below HR.out HB.out) q (by omega)
                obtain rfl := Option.some.inj e2
                clear e1 e2
                rw [HM.out] at q1
                obtain ⟨m', hm'⟩ : ∃ m', l.getD q 0 = m' := ⟨_, rfl⟩
                have HM' := Aside0.mk hm'
                rw [hm'] at q2
                clear hm'
                by_cases he : m' = m
                · subst he
                  have hbad : newS l (k + 1) = none := by
                    rw [HNX.out, if_neg]
                    rintro ⟨_, h⟩
                    have := HSL.out.1 h q hgo2
                    rw [HM'.out] at this
                    simp at this
                  have HBAD := Aside0.mk hbad
                  clear hbad
                  go_wp2_with fail
                  go_quiet (fail)
                  go_wp2
                  exact bodyPost_ret (v := .tuple #[.pointer none, .int .i64 2]) (by simp [results, Try.results33, go_sem]) rfl (RNewAns.bad (.inl (newS_none l HBAD.out l.length (by omega))) (below_step HB.out (pw_below_drewN (Below.refl _ _) _)))
                · have he' : (m' == m) = false := by simpa using he
                  go_wp2_with fail
                  go_quiet (fail)
                  go_wp2
                  go_roundw
                  case rel =>
                    refine ⟨q + 1, by omega, by go_num, ⟨fun j hj => ?_⟩, ⟨below_step HB.out (pw_below_drewN (Below.refl _ _) _)⟩⟩
                    by_cases e : j = q
                    · subst e; rw [HM'.out]; exact he'
                    · exact HP.out j (by omega)
                  case measure => simp [intOf]; omega
              · obtain rfl : q = k := by omega
                have hnx : newS l (q + 1) = some (S ++ [⟨m, 0, none⟩]) := by rw [HNX.out, if_pos ⟨trivial, HSL.out.2 HP.out⟩]
                have HNX2 := Aside0.mk hnx
                clear hnx HNX
                go_wp2
                go_roundw
                case rel => exact ⟨q + 1, _, by omega, by go_num, HNX2, HB⟩
                case measure => simp [intOf]; omega
        · obtain rfl : k = l.length := by omega
          have hSl := newS_len l _ S HS.out
          have hSg := newS_get l _ S HS.out
          obtain ⟨i0, hi, hz0, hz1, hz2⟩ := info_parts info3
          obtain ⟨mi, hmi⟩ : ∃ mi, madeCells #[Value.int .i64 0] l.length = mi := ⟨_, rfl⟩
          obtain ⟨mb, hmb⟩ : ∃ mb, madeCells #[Value.bool false] l.length = mb := ⟨_, rfl⟩
          have hmk1 := print_make (P := Try.prog) 39 3 .i64 8 Try.underlying39 info3 (by omega) l.length (by omega)
          have hmk2 := print_make_of (P := Try.prog) 63 4 (.bool false) 1 Try.underlying63 info4 rfl (by omega) l.length (by omega)
          rw [hmi] at hmk1
          rw [hmb] at hmk2
          have HMI := Aside0.mk hmi
          have HMB := Aside0.mk hmb
          have HSG := Aside0.mk hSg
          have HSLN := Aside0.mk hSl
          have HII := Aside0.mk hi
          have HZ0 := Aside0.mk hz0
          have HZ1 := Aside0.mk hz1
          have HZ2 := Aside0.mk hz2
          have HNW := Aside0.mk (fun u (hb : Below w.heap.size w u) => C_news (Kd.C_below HR.out hb))
          clear hmi hmb hSl hSg hi hz0 hz1 hz2
          have hsz := HB.out.size
          go_wp2_with fail
          go_region_law (refine step_append_copy rfl (.tmp 42) (.tmp 43) 39 rfl 3 i0 (.int .i64 0) 8 Try.underlying39 HII.out HZ0.out HZ1.out HZ2.out _ rfl ad l.length cap (l.map fun x => Value.int .i64 x) rfl ?n1 (HNW.out _ ?n2) ?n3 ?n4 ?n5 ?_; (case n1 => simp); (case n2 => repeat (first | exact HB.out | refine Below.drew ?_ | refine Below.alloc ?_ (by first | omega | (simp; omega)) _)); (case n3 => omega); (case n4 => omega); (case n5 => omega); intro cp cs hcs; have HCS := Aside0.mk hcs; clear hcs)
          all_goals
            go_wp2
            refine bodyPost_ret (v := .tuple #[.pointer (some ⟨wr.heap.size + 4, 0, none⟩), .int .i64 0]) (by simp [results, Try.results33, go_sem]) rfl ?_
            refine' RNewAns.good ?_ ?_ ?_ ?_ ?_ ?_ ?_ ?_ ?_ HS.out ⟨h1', h2'⟩ HMI.out HMB.out HCS.out ?_
            rotate_left 4
            · simp only [look_drew]
              rw [look_alloc, if_pos (by simp)]
            · (simp only [look_drew]; repeat' (first | rfl | (refine (look_pos (show _ = _ from ?_)).trans ?_; (simp only [sz_alloc] <;> omega); rfl) | (refine (look_neg (show _ ≠ _ from ?_)).trans ?_; (simp only [sz_alloc] <;> omega))))
            · (simp only [look_drew]; repeat' (first | rfl | (refine (look_pos (show _ = _ from ?_)).trans ?_; (simp only [sz_alloc] <;> omega); rfl) | (refine (look_neg (show _ ≠ _ from ?_)).trans ?_; (simp only [sz_alloc] <;> omega))))
            · (simp only [look_drew]; repeat' (first | rfl | (refine (look_pos (show _ = _ from ?_)).trans ?_; (simp only [sz_alloc] <;> omega); rfl) | (refine (look_neg (show _ ≠ _ from ?_)).trans ?_; (simp only [sz_alloc] <;> omega))))
            · omega
            · omega
            · omega
            · omega
            · omega
            · repeat (first | exact HB.out | refine Below.drew ?_ | refine Below.alloc ?_ (by first | omega | (simp; omega)) _)
end Go.Proofs.Ytheafmjdncmpoaa
