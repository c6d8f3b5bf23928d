/-
  Reads: a read in memory.
-/
import Derived.Test.YtaaepadhapfkoaaRdA
import Derived.Test.YtaaepadhapfkoaaDgZ
import Derived.Test.YtaaepadhapfkoaaRkC
import Derived.Deep.MidRow
namespace Go.Proofs.Ytaaepadhapfkoaa
set_option linter.unusedSimpArgs false
set_option linter.unusedVariables false
open Go.RowKit

/-- what lies at each place of a read's block -/
def Rf (R : Rdr) (v1 v2 v3 : Value) (i : Nat) : Value :=
  if i = 0 then .int .i64 R.set
  else if i < 33 then .int .u8 (R.id.getD (i - 1) 0 : Nat)
  else if i = 33 then .int .i64 R.me
  else if i = 34 then .int .i64 R.copies
  else if i = 35 then .int .i64 R.cn
  else if i = 36 then .int .i64 R.cb
  else if i = 37 then .int .i64 R.cc
  else if i = 38 then .int .i64 R.retry
  else if i = 39 then .int .i64 R.pat
  else if i = 40 then .int .u8 (R.st : Nat)
  else if i = 41 then v1
  else if i = 42 then v2
  else if i < 107 then .int .u8 (R.kn.getD (i - 43) 0 : Nat)
  else if i = 107 then v3
  else if i = 108 then .int .i64 R.err
  else if i = 109 then .int .i64 R.ticks
  else .int .i64 R.all
/-- a block of a type, place by place -/
def RBlk (w : World) (p : Nat) (f : Nat → Value) : Prop := ∃ cs : Array Value, w.heap[p]? = some (.cells cs 125 (0, 0)) ∧ cs.size = 111 ∧ ∀ i, i < 111 → cs[i]? = some (f i)
theorem RBlk.cell {w : World} {p : Nat} {f : Nat → Value} (h : RBlk w p f) {i : Nat} (hi : i < 111) : w.cell? ⟨p, i, none⟩ = some (f i) := by
  obtain ⟨cs, h1, _, h3⟩ := h
  rw [Go.Joins.cell_of_block h1, h3 i hi]
theorem RBlk.free {w : World} {p : Nat} {f : Nat → Value} (h : RBlk w p f) (i : Nat) : w.frozen? ⟨p, i, none⟩ = false := by
  obtain ⟨cs, h1, _, _⟩ := h
  exact Go.Joins.unfrozen_of_block h1 i
theorem RBlk.lt {w : World} {p : Nat} {f : Nat → Value} (h : RBlk w p f) : p < w.heap.size := by
  obtain ⟨cs, h1, _, _⟩ := h
  exact (Array.getElem?_eq_some_iff.1 h1).1
theorem RBlk.keep {w w' : World} {p : Nat} {f : Nat → Value} (h : RBlk w p f) (hk : w'.heap[p]? = w.heap[p]?) : RBlk w' p f := by
  obtain ⟨cs, h1, h2, h3⟩ := h
  exact ⟨cs, hk.trans h1, h2, h3⟩
theorem RBlk.congr {w : World} {p : Nat} {f g : Nat → Value} (h : RBlk w p f) (hf : ∀ i, i < 111 → f i = g i) : RBlk w p g := by
  obtain ⟨cs, h1, h2, h3⟩ := h
  exact ⟨cs, h1, h2, fun i hi => (h3 i hi).trans (by rw [hf i hi])⟩
theorem RBlk.put {w : World} {p : Nat} {f : Nat → Value} (h : RBlk w p f) {j : Nat} (hj : j < 111) (v : Value) : RBlk (w.setCell ⟨p, j, none⟩ v) p (fun i => if i = j then v else f i) := by
  obtain ⟨cs, h1, h2, h3⟩ := h
  refine ⟨_, Go.Joins.block_setCell h1 v, by rw [Array.size_setIfInBounds]; exact h2, fun i hi => ?_⟩
  rw [Array.getElem?_setIfInBounds]
  by_cases e : j = i
  · subst e
    rw [if_pos rfl, if_pos (by rw [h2]; exact hj)]
    show some v = some (if j = j then v else f j)
    rw [if_pos rfl]
  · rw [if_neg e]
    show cs[i]? = some (if i = j then v else f i)
    rw [if_neg (fun e' => e e'.symm), h3 i hi]
/-- an address leads to a block of a type -/
def AtT (w : World) (a : Option Addr) (t : TypeId) : Prop := ∀ ad, a = some ad → ∃ cs, w.heap[ad.block]? = some (.cells cs t (0, 0))
theorem AtT.nil (w : World) (t : TypeId) : AtT w none t := fun ad h => by cases h
theorem AtT.keep {w w' : World} {a : Option Addr} {t : TypeId} (h : AtT w a t) (hk : ∀ ad, a = some ad → w'.heap[ad.block]? = w.heap[ad.block]?) : AtT w' a t := fun ad ha => by
  obtain ⟨cs, hc⟩ := h ad ha
  exact ⟨cs, (hk ad ha).trans hc⟩
theorem AtT.lt {w : World} {a : Option Addr} {t : TypeId} (h : AtT w a t) {ad : Addr} (ha : a = some ad) : ad.block < w.heap.size := by
  obtain ⟨cs, hc⟩ := h ad ha
  exact (Array.getElem?_eq_some_iff.1 hc).1
theorem RdI.keep {w w' : World} {a : Option Addr} {l : List Int} (h : RdI w a l) (hs : w.heap.size ≤ w'.heap.size) (hk : ∀ ad, a = some ad → w'.heap[ad.block]? = w.heap[ad.block]?) : RdI w' a l := fun i hi => by
  obtain ⟨b, off, rfl, hlt, hc⟩ := h i hi
  exact ⟨b, off, rfl, Nat.lt_of_lt_of_le hlt hs, (World.cell?_of_block (a := ⟨b, off + i, none⟩) (hk ⟨b, off, none⟩ rfl)).trans hc⟩
theorem Given.keep {w w' : World} {a : Option Addr} {c : Nat} {l : List Nat} (h : Given w a c l) (hs : w.heap.size ≤ w'.heap.size) (hk : ∀ ad, a = some ad → w'.heap[ad.block]? = w.heap[ad.block]?) : Given w' a c l :=
  ⟨⟨h.1.1, fun i hi => by
    obtain ⟨b, off, rfl, hlt, hc⟩ := h.1.2 i hi
    exact ⟨b, off, rfl, Nat.lt_of_lt_of_le hlt hs, (World.cell?_of_block (a := ⟨b, off + i, none⟩) (hk ⟨b, off, none⟩ rfl)).trans hc⟩⟩, h.2⟩
/-- a read in memory -/
structure RAt (w : World) (p : Nat) (R : Rdr) (a1 : Option Addr) (c1 : Nat) (a2 : Option Addr) (c2 : Nat) (a3 : Option Addr) (c3 : Nat) : Prop where
  blk : RBlk w p (Rf R (.slice a1 R.ord.length c1) (.slice a2 R.homes.length c2) (.slice a3 R.data.length c3))
  ord : RdI w a1 R.ord
  hom : RdI w a2 R.homes
  dat : Given w a3 c3 R.data
  t1 : AtT w a1 3
  t2 : AtT w a2 3
  t3 : AtT w a3 5
section
variable {w w' : World} {p : Nat} {R : Rdr} {a1 a2 a3 : Option Addr} {c1 c2 c3 : Nat}
theorem RAt.ne {t : TypeId} {a : Option Addr} (h : RAt w p R a1 c1 a2 c2 a3 c3) (ht : AtT w a t) (h5 : t ≠ 125) {ad : Addr} (ha : a = some ad) : ad.block ≠ p := fun e => by
  obtain ⟨cs, hc⟩ := ht ad ha
  obtain ⟨ds, hd, _⟩ := h.blk
  rw [e, hd] at hc
  injection hc with hc
  injection hc with _ hc _
  exact h5 hc.symm
theorem RAt.keep (h : RAt w p R a1 c1 a2 c2 a3 c3) (hs : w.heap.size ≤ w'.heap.size) (hk : ∀ b t cs, w.heap[b]? = some (.cells cs t (0, 0)) → (b = p ∨ t = 3 ∨ t = 5) → w'.heap[b]? = w.heap[b]?) : RAt w' p R a1 c1 a2 c2 a3 c3 := by
  have k1 : ∀ ad, a1 = some ad → w'.heap[ad.block]? = w.heap[ad.block]? := fun ad ha => by obtain ⟨cs, hc⟩ := h.t1 ad ha; exact hk _ _ _ hc (.inr (.inl rfl))
  have k2 : ∀ ad, a2 = some ad → w'.heap[ad.block]? = w.heap[ad.block]? := fun ad ha => by obtain ⟨cs, hc⟩ := h.t2 ad ha; exact hk _ _ _ hc (.inr (.inl rfl))
  have k3 : ∀ ad, a3 = some ad → w'.heap[ad.block]? = w.heap[ad.block]? := fun ad ha => by obtain ⟨cs, hc⟩ := h.t3 ad ha; exact hk _ _ _ hc (.inr (.inr rfl))
  obtain ⟨cs, hc, _⟩ := h.blk
  exact ⟨h.blk.keep (hk _ _ _ hc (.inl rfl)), h.ord.keep hs k1, h.hom.keep hs k2, h.dat.keep hs k3, h.t1.keep k1, h.t2.keep k2, h.t3.keep k3⟩
theorem RAt.below (h : RAt w p R a1 c1 a2 c2 a3 c3) (hb : Below w.heap.size w w') : RAt w' p R a1 c1 a2 c2 a3 c3 :=
  h.keep hb.size fun b t cs hc _ => hb.block b (Array.getElem?_eq_some_iff.1 hc).1
/-- another read's block is written -/
theorem RAt.grown (h : RAt w p R a1 c1 a2 c2 a3 c3) {q : Nat} {cs : Array Value} (hg : w.grownBy w' (some q)) (hq : q ≠ p) (hc : w.heap[q]? = some (.cells cs 125 (0, 0))) : RAt w' p R a1 c1 a2 c2 a3 c3 :=
  h.keep hg.size fun b t ds hd ht => hg.block b (Array.getElem?_eq_some_iff.1 hd).1 fun e => by
    injection e with e
    subst e
    rcases ht with rfl | rfl | rfl
    · exact hq rfl
    · rw [hc] at hd; injection hd with hd; injection hd with _ hd _; cases hd
    · rw [hc] at hd; injection hd with hd; injection hd with _ hd _; cases hd
/-- one of its own fields is written -/
theorem RAt.put (h : RAt w p R a1 c1 a2 c2 a3 c3) {j : Nat} (hj : j < 111) (v : Value) {R' : Rdr} {b3 : Option Addr} {d3 : Nat}
    (hv : ∀ i, i < 111 → (if i = j then v else Rf R (.slice a1 R.ord.length c1) (.slice a2 R.homes.length c2) (.slice a3 R.data.length c3) i) = Rf R' (.slice a1 R'.ord.length c1) (.slice a2 R'.homes.length c2) (.slice b3 R'.data.length d3) i)
    (ho : R'.ord = R.ord) (hh : R'.homes = R.homes) (hd : Given w b3 d3 R'.data) (ht : AtT w b3 5) : RAt (w.setCell ⟨p, j, none⟩ v) p R' a1 c1 a2 c2 b3 d3 := by
  have k : ∀ {a : Option Addr} {t : TypeId}, AtT w a t → t ≠ 125 → ∀ ad, a = some ad → (w.setCell ⟨p, j, none⟩ v).heap[ad.block]? = w.heap[ad.block]? := fun hat h5 ad ha => Below.heap_setCell w ⟨p, j, none⟩ v _ (h.ne hat h5 ha)
  have hs : w.heap.size ≤ (w.setCell ⟨p, j, none⟩ v).heap.size := by simp [World.setCell]
  exact ⟨(h.blk.put hj v).congr hv, by rw [ho]; exact h.ord.keep hs (k h.t1 (by decide)), by rw [hh]; exact h.hom.keep hs (k h.t2 (by decide)), hd.keep hs (k ht (by decide)), h.t1.keep (k h.t1 (by decide)), h.t2.keep (k h.t2 (by decide)), ht.keep (k ht (by decide))⟩
theorem RAt.lt (h : RAt w p R a1 c1 a2 c2 a3 c3) : p < w.heap.size := h.blk.lt
theorem RAt.free (h : RAt w p R a1 c1 a2 c2 a3 c3) (i : Nat) : w.frozen? ⟨p, i, none⟩ = false := h.blk.free i
theorem RAt.cset (h : RAt w p R a1 c1 a2 c2 a3 c3) : w.cell? ⟨p, 0, none⟩ = some (.int .i64 R.set) := h.blk.cell (by decide)
theorem RAt.cme (h : RAt w p R a1 c1 a2 c2 a3 c3) : w.cell? ⟨p, 33, none⟩ = some (.int .i64 R.me) := h.blk.cell (by decide)
theorem RAt.ccopies (h : RAt w p R a1 c1 a2 c2 a3 c3) : w.cell? ⟨p, 34, none⟩ = some (.int .i64 R.copies) := h.blk.cell (by decide)
theorem RAt.ccn (h : RAt w p R a1 c1 a2 c2 a3 c3) : w.cell? ⟨p, 35, none⟩ = some (.int .i64 R.cn) := h.blk.cell (by decide)
theorem RAt.ccb (h : RAt w p R a1 c1 a2 c2 a3 c3) : w.cell? ⟨p, 36, none⟩ = some (.int .i64 R.cb) := h.blk.cell (by decide)
theorem RAt.ccc (h : RAt w p R a1 c1 a2 c2 a3 c3) : w.cell? ⟨p, 37, none⟩ = some (.int .i64 R.cc) := h.blk.cell (by decide)
theorem RAt.cretry (h : RAt w p R a1 c1 a2 c2 a3 c3) : w.cell? ⟨p, 38, none⟩ = some (.int .i64 R.retry) := h.blk.cell (by decide)
theorem RAt.cpat (h : RAt w p R a1 c1 a2 c2 a3 c3) : w.cell? ⟨p, 39, none⟩ = some (.int .i64 R.pat) := h.blk.cell (by decide)
theorem RAt.cst (h : RAt w p R a1 c1 a2 c2 a3 c3) : w.cell? ⟨p, 40, none⟩ = some (.int .u8 (R.st : Nat)) := h.blk.cell (by decide)
theorem RAt.cord (h : RAt w p R a1 c1 a2 c2 a3 c3) : w.cell? ⟨p, 41, none⟩ = some (.slice a1 R.ord.length c1) := h.blk.cell (by decide)
theorem RAt.chom (h : RAt w p R a1 c1 a2 c2 a3 c3) : w.cell? ⟨p, 42, none⟩ = some (.slice a2 R.homes.length c2) := h.blk.cell (by decide)
theorem RAt.cdat (h : RAt w p R a1 c1 a2 c2 a3 c3) : w.cell? ⟨p, 107, none⟩ = some (.slice a3 R.data.length c3) := h.blk.cell (by decide)
theorem RAt.cerr (h : RAt w p R a1 c1 a2 c2 a3 c3) : w.cell? ⟨p, 108, none⟩ = some (.int .i64 R.err) := h.blk.cell (by decide)
theorem RAt.cticks (h : RAt w p R a1 c1 a2 c2 a3 c3) : w.cell? ⟨p, 109, none⟩ = some (.int .i64 R.ticks) := h.blk.cell (by decide)
theorem RAt.call (h : RAt w p R a1 c1 a2 c2 a3 c3) : w.cell? ⟨p, 110, none⟩ = some (.int .i64 R.all) := h.blk.cell (by decide)
theorem RAt.cknown (h : RAt w p R a1 c1 a2 c2 a3 c3) {i : Nat} (hi : i < 64) : w.cell? ⟨p, 43 + i, none⟩ = some (.int .u8 (R.kn.getD i 0 : Nat)) := by
  rw [h.blk.cell (by omega)]
  unfold Rf
  rw [if_neg (by omega), if_neg (by omega), if_neg (by omega), if_neg (by omega), if_neg (by omega), if_neg (by omega), if_neg (by omega), if_neg (by omega), if_neg (by omega), if_neg (by omega), if_neg (by omega), if_neg (by omega), if_pos (by omega), show 43 + i - 43 = i by omega]
theorem RAt.cid (h : RAt w p R a1 c1 a2 c2 a3 c3) (hl : R.id.length = 32) : w.rangeAt p 1 (cellsOf R.id) := fun j v hv => by
  obtain ⟨x, hx, rfl⟩ : ∃ x, R.id[j]? = some x ∧ Value.int .u8 (x : Nat) = v := by
    unfold cellsOf at hv
    rw [List.getElem?_map] at hv
    exact Option.map_eq_some_iff.1 hv
  have hj := (List.getElem?_eq_some_iff.1 hx).1
  rw [h.blk.cell (by omega)]
  unfold Rf
  rw [if_neg (by omega), if_pos (by omega), show 1 + j - 1 = j by omega, List.getD_eq_getElem?_getD, hx]
  rfl
end
end Go.Proofs.Ytaaepadhapfkoaa
