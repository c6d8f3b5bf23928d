/-
  append onto a row of one's own, all of whose block's cells are told, those behind the row too.
-/
import Derived.Test.YtheafmjdncmpoaaQuoE
namespace Go.Proofs.Ytheafmjdncmpoaa
set_option linter.unusedSimpArgs false
set_option linter.unusedVariables false
open Go.RowKit Go.Proofs.YtheafmjdncmpoaaW.PrintWords Go.Proofs.YtheafmjdncmpoaaW.PrintMore

/-- every cell of a value's block is such a one -/
def Full (G : Value → Prop) (e : TypeId) (w : World) (v : Value) : Prop := ∀ k, v.ownBlock = some k → ∃ cur, w.heap[k]? = some (.cells cur e (0, 0)) ∧ ∀ u ∈ cur.toList, G u
theorem Full.nil (G : Value → Prop) (e : TypeId) (w : World) (n c : Nat) : Full G e w (.slice none n c) := fun k h => by simp [Value.ownBlock] at h
theorem Full.keep {G : Value → Prop} {e : TypeId} {w w' : World} {v : Value} (h : Full G e w v) (hk : ∀ k, v.ownBlock = some k → w'.heap[k]? = w.heap[k]?) : Full G e w' v := fun k hv => by
  obtain ⟨cur, h1, h2⟩ := h k hv
  exact ⟨cur, (hk k hv).trans h1, h2⟩
theorem Full.below {G : Value → Prop} {e : TypeId} {w w' : World} {v : Value} (h : Full G e w v) (hb : Below w.heap.size w w') : Full G e w' v := fun k hv => by
  obtain ⟨cur, h1, h2⟩ := h k hv
  exact ⟨cur, (hb.block k (Array.getElem?_eq_some_iff.1 h1).1).trans h1, h2⟩
theorem zeroCells_mem {z : Array Value} (n : Nat) {G : Value → Prop} (hz : ∀ u ∈ z.toList, G u) (hs : 0 < z.size) : ∀ u ∈ (Builtin.zeroCells z n).toList, G u := by
  intro u hu
  unfold Builtin.zeroCells at hu
  simp only [Array.toList_map, List.mem_map] at hu
  obtain ⟨i, _, rfl⟩ := hu
  have hlt : i % z.size < z.size := Nat.mod_lt _ hs
  rw [getElem!_pos z (i % z.size) hlt]
  exact hz _ (by simp)
section
variable {P : Program}
theorem run_append_full (w : World) (G : Value → Prop) (base : Nat) (t ty e : TypeId) (i : TypeInfo) (z : Value) (size bytes : Nat) (ht : P.underlying t = some (.slice e)) (hi : P.info? e = some i) (hz : i.zero = some z)
    (hsize : i.size = size) (hby : i.bytes = bytes) (hzs : z.cells.size = size) (hsz : 0 < size)
    (v : Value) (n : Nat) (xs : List Value) (hown : w.ownsRow base e size v n xs) (hfull : Full G e w v) (hzG : ∀ u ∈ z.cells.toList, G u)
    (a : Addr) (m c : Nat) (news : List Value) (hl : news.length = m * size) (hnews : ∀ j u, news[j]? = some u → w.cell? (a.add j) = some u) (h1 : ∀ u ∈ news, u.oneCell' = true) (hnG : ∀ u ∈ news, G u)
    (h63 : n + m ≤ maxLen) (hbytes : (n + m) * bytes ≤ 140737488355328) (hbase : base ≤ w.heap.size) :
    ∃ v' w', (Builtin.append_ #[t, t] ty #[v, .slice (some a) m c]).run P w = .ok v' w' ∧ w'.ownsRow base e size v' (n + m) (xs ++ news) ∧ w.grownBy w' v.ownBlock ∧
      (v'.ownBlock = v.ownBlock ∨ v'.ownBlock = some w.heap.size) ∧ Full G e w' v' := by
  obtain ⟨v', w', hr, ho, hg, _, hat⟩ := run_append_own_at (P := P) w base t ty e i z size bytes ht hi hz hsize hby hzs hsz v n xs hown a m c news hl hnews h1 h63 hbytes hbase
  refine ⟨v', w', hr, ho, hg, hat, ?_⟩
  subst hsize
  subst hby
  have hsmall : n + m ≤ 9223372036854775807 := by simp only [maxLen] at h63; omega
  have grown : ∀ (os : List Value) (q : Nat) (A : Nat) (c : Nat), (∀ u ∈ os, G u) → Full G e (w.drew.alloc (.cells (os.toArray ++ news.toArray ++ Builtin.zeroCells z.cells q) e)) (.slice (some ⟨w.heap.size, 0, none⟩) A c) := by
    intro os q A c hos k hk
    obtain rfl : w.heap.size = k := by simpa [Value.ownBlock] using hk
    refine ⟨_, heap_alloc_new w.drew _, fun u hu => ?_⟩
    simp only [Array.toList_append, List.append_assoc, List.mem_append] at hu
    rcases hu with hu | hu | hu
    · exact hos u (by simpa using hu)
    · exact hnG u (by simpa using hu)
    · exact zeroCells_mem _ hzG (by rw [hzs]; exact hsz) u hu
  rcases hown.2 with ⟨rfl, rfl⟩ | ⟨g, cap, cur, rfl, hbg, hgg, hnc, hcm, hcs, htake⟩
  · by_cases hm : m = 0
    · have hn : news = [] := List.eq_nil_of_length_eq_zero (by rw [hl, hm]; simp)
      subst hm
      have hr2 : (Builtin.append_ #[t, t] ty #[.slice none 0 0, .slice (some a) 0 c]).run P w = .ok (.slice none 0 0) w := by
        simp [Builtin.append_, run_underlying ht, sizeOf, typeInfo, hi, Builtin.lenOf, Builtin.firstCells, loadCells, loadCellsFrom]
      rw [hr2] at hr
      injection hr with e1 e2
      subst e1
      exact Full.nil _ _ _ _ _
    · have hr2 := run_append_nil (P := P) w t ty e i z ht hi hz a m c news hl hnews (by omega) (by omega) (by have hb := hbytes; simp only [Nat.zero_add] at hb; omega)
      rw [hr2] at hr
      injection hr with e1 e2
      subst e1
      subst e2
      have := grown [] (grownCap w m 0 e - m) m (grownCap w m 0 e) (by simp)
      simpa using this
  · by_cases hroom : n + m ≤ cap
    · have hfit : n * i.size + news.length ≤ cur.size := by rw [hl, hcs, ← Nat.add_mul]; exact Nat.mul_le_mul_right _ hroom
      have hr2 := run_append_room (P := P) w t ty e i ht hi g n cap cur hgg a m c news hl hnews h1 hroom hfit
      rw [hr2] at hr
      injection hr with e1 e2
      subst e1
      subst e2
      intro k hk
      obtain rfl : g = k := by simpa [Value.ownBlock] using hk
      obtain ⟨cur', h2, h3⟩ := hfull g (by simp [Value.ownBlock])
      rw [hgg] at h2
      injection h2 with h2
      injection h2 with h2 _ _
      subst h2
      refine ⟨_, setRow_heap w g cur _ e _ hgg, fun u hu => ?_⟩
      simp only [List.append_assoc, List.mem_append] at hu
      rcases hu with hu | hu | hu
      · exact h3 u (List.mem_of_mem_take hu)
      · exact hnG u hu
      · exact h3 u (List.mem_of_mem_drop hu)
    · have holds : ∀ j u, xs[j]? = some u → w.cell? ((⟨g, 0, none⟩ : Addr).add j) = some u := hown.cells (g := g) rfl
      have hr2 := run_append_grow (P := P) w t ty e i z ht hi hz ⟨g, 0, none⟩ n cap xs hown.1 holds a m c news hl hnews (by omega) (by omega) (growslice_fits (by omega) hbytes)
      rw [hr2] at hr
      injection hr with e1 e2
      subst e1
      subst e2
      refine grown xs _ _ _ (fun u hu => ?_)
      obtain ⟨cur', h2, h3⟩ := hfull g (by simp [Value.ownBlock])
      rw [hgg] at h2
      injection h2 with h2
      injection h2 with h2 _ _
      subst h2
      rw [← htake] at hu
      exact h3 u (List.mem_of_mem_take hu)
theorem wpList_append_full {ops : Array Oper} {rest : List Oper} {o : Oper} {a : Act} {Q : Exit → Act → World → Prop} (w : World) (G : Value → Prop) (hgd : o.guard = none) (s x : Operand) (t : TypeId)
    (ho : o.op = .call { callee := .builtin .append, args := #[s, x], argTypes := #[t, t] })
    (base : Nat) (e : TypeId) (i : TypeInfo) (z : Value) (size bytes : Nat) (ht : P.underlying t = some (.slice e)) (hi : P.info? e = some i) (hz : i.zero = some z)
    (hsize : i.size = size) (hby : i.bytes = bytes) (hzs : z.cells.size = size) (hsz : 0 < size)
    (v : Value) (n : Nat) (xs : List Value) (hs : a.eval s = v) (hown : w.ownsRow base e size v n xs) (hfull : Full G e w v) (hzG : ∀ u ∈ z.cells.toList, G u)
    (ad : Addr) (m c : Nat) (news : List Value) (hx : a.eval x = .slice (some ad) m c) (hl : news.length = m * size) (hnews : ∀ j u, news[j]? = some u → w.cell? (ad.add j) = some u) (h1 : ∀ u ∈ news, u.oneCell' = true) (hnG : ∀ u ∈ news, G u)
    (h63 : n + m ≤ maxLen) (hbytes : (n + m) * bytes ≤ 140737488355328) (hbase : base ≤ w.heap.size)
    (h : ∀ v' w', w'.ownsRow base e size v' (n + m) (xs ++ news) → w.grownBy w' v.ownBlock → (v'.ownBlock = v.ownBlock ∨ v'.ownBlock = some w.heap.size) → Full G e w' v' → wpList P ops Q rest (a.put o.dst v') w') : wpList P ops Q (o :: rest) a w := by
  obtain ⟨v', w', hr, h2, h3, h4, h5⟩ := run_append_full (P := P) w G base t o.type e i z size bytes ht hi hz hsize hby hzs hsz v n xs hown hfull hzG ad m c news hl hnews h1 hnG h63 hbytes hbase
  refine Kd.event_run hgd ?_ (h v' w' h2 h3 h4 h5)
  unfold execOp
  simp only [ho, resolve, invoke, builtin, Sem.run_bind, Sem.run_pure, Result.andThen_ok, List.map_toArray, List.map_cons, List.map_nil, hs, hx, hr]
/-- append(v, x) onto a row of the call's own that is told whole; the goal's world bears the variadic's box -/
theorem R_append_full {ops : Array Oper} {rest : List Oper} {o : Oper} {a : Act} {Q : Exit → Act → World → Prop} {α : Type} (d : Kd α) (G : Value → Prop) {w0 W : World} (base : Nat) (hgd : o.guard = none) (s x : Operand) (t e : TypeId) (z : Value) (bytes : Nat)
    (ho : o.op = .call { callee := .builtin .append, args := #[s, x], argTypes := #[t, t] })
    (ht : P.underlying t = some (.slice e)) (hinfo : (P.info? e).map (fun i => (i.zero, i.size, i.bytes)) = some (some z, d.sz, bytes)) (hz : z.cells.size = d.sz) (hs0 : 0 < d.sz) (hb0 : 0 < bytes)
    (v : Value) (xs : List α) (p : α) (cs : List Value) (ok : Nat → Prop) (hs : a.eval s = v) (hx : a.eval x = .slice (some ⟨W.heap.size, 0, none⟩) 1 1) (hp : d.M W base (fun _ => False) p cs) (hfresh : ∀ k, W.heap.size ≤ k → ok k)
    (HO : d.R e W base ok v xs) (HF : Full G e W v) (hzG : ∀ u ∈ z.cells.toList, G u) (hcG : ∀ u ∈ cs, G u) (HB : Below base w0 W) (hbase : base ≤ W.heap.size) (hl : (xs.length + 1) * bytes ≤ 140737488355328)
    (h : ∀ v1 w1, d.R e w1 base ok v1 (xs ++ [p]) → Below base w0 w1 → W.grownBy w1 v.ownBlock → Full G e w1 v1 → wpList P ops Q rest (a.put o.dst v1) w1) :
    wpList P ops Q (o :: rest) a (W.alloc (.cells cs.toArray e)) := by
  obtain ⟨h0, inner, hown, hr⟩ := HO
  obtain ⟨i0, hi, hzz⟩ := Option.map_eq_some_iff.1 hinfo
  simp only [Prod.mk.injEq] at hzz
  obtain ⟨hz0, hz1, hz2⟩ := hzz
  have hlen : xs.length + 1 ≤ 140737488355328 := Nat.le_trans (Nat.le_mul_of_pos_right _ hb0) hl
  have hcl := d.K_len (d.K_of_M hp)
  refine wpList_append_full (W.alloc (.cells cs.toArray e)) G hgd s x t ho base e i0 z d.sz bytes ht hi hz0 hz1 hz2 hz hs0 v xs.length inner hs (hown.alloc _) (HF.below ((Below.refl _ _).alloc (Nat.le_refl _) _)) hzG ⟨W.heap.size, 0, none⟩ 1 1 cs hx (by rw [hcl]; simp)
    (by simpa using World.news_of_block (cs := cs.toArray) (t := e) (fr := (0, 0)) (heap_alloc_new W (.cells cs.toArray e))) (d.K_one (d.K_of_M hp)) hcG (by simp only [maxLen]; omega) hl (by simp; omega) ?_
  intro v1 w1 hown1 hg hat hf
  have hg' : W.grownBy w1 v.ownBlock := World.grownBy.trans (World.grownBy_alloc W _ _) hg
  have hat' : v1.ownBlock = v.ownBlock ∨ ∃ b, v1.ownBlock = some b ∧ W.heap.size ≤ b := by
    rcases hat with hat | hat
    · exact .inl hat
    · exact .inr ⟨_, hat, by simp⟩
  exact h v1 w1 (Kd.R_appended h0 hr hp (fun _ hk => hk.elim) hfresh hown1 hg' hat') ((HB.alloc hbase _).grown hg (by simp; omega) (own_base hown)) hg' hf
/-- a whole number of a kind -/
def isI (k : IntKind) (u : Value) : Prop := ∃ x, u = .int k x
end
end Go.Proofs.Ytheafmjdncmpoaa
