/-
  Reads: a read is made.
-/
import Derived.Test.YtaaepadhapfkoaaRdN
import Derived.Test.YtaaepadhapfkoaaRkS
import Derived.Test.YtaaepadhapfkoaaRkJ
import Derived.Test.YtaaepadhapfkoaaRkH
namespace Go.Proofs.Ytaaepadhapfkoaa
set_option linter.unusedSimpArgs false
set_option linter.unusedVariables false
open Go.RowKit

/-- a row of ints with room -/
def RowI (w : World) (g cap : Nat) (l : List Int) : Prop := ∃ cur, w.heap[g]? = some (.cells cur 3 (0, 0)) ∧ (∀ j, j < l.length → cur[j]? = some (.int .i64 (l.getD j 0))) ∧ l.length ≤ cap
theorem RowI.below {w w' : World} {g cap : Nat} {l : List Int} (h : RowI w g cap l) (hb : Below w.heap.size w w') : RowI w' g cap l := by
  obtain ⟨cur, h1, h2⟩ := h
  exact ⟨cur, (hb.block _ (Array.getElem?_eq_some_iff.1 h1).1).trans h1, h2⟩
theorem RowI.lt {w : World} {g cap : Nat} {l : List Int} (h : RowI w g cap l) : g < w.heap.size := by
  obtain ⟨cur, h1, h2⟩ := h
  exact (Array.getElem?_eq_some_iff.1 h1).1
theorem RowI.take {w : World} {g cap : Nat} {l : List Int} (h : RowI w g cap l) (k : Nat) : RowI w g cap (l.take k) := by
  obtain ⟨cur, h1, h2, h3⟩ := h
  have hl : (l.take k).length ≤ l.length := by rw [List.length_take]; omega
  refine ⟨cur, h1, fun j hj => ?_, by omega⟩
  rw [h2 j (by omega)]
  rw [List.length_take] at hj
  rw [List.getD_eq_getElem?_getD, List.getD_eq_getElem?_getD, List.getElem?_take, if_pos (by omega)]
theorem RowI.rdI {w : World} {g cap : Nat} {l : List Int} (h : RowI w g cap l) : RdI w (some ⟨g, 0, none⟩) l := fun i hi => by
  obtain ⟨cur, h1, h2, h3⟩ := h
  exact ⟨g, 0, rfl, (Array.getElem?_eq_some_iff.1 h1).1, by rw [Go.Joins.cell_of_block h1, Nat.zero_add]; exact h2 i hi⟩
theorem rowI_own {w : World} {base n g cap : Nat} {l : List Int} (h : w.ownsRow base 3 1 (.slice (some ⟨g, 0, none⟩) n cap) n (intsZ l)) : RowI w g cap l ∧ base ≤ g := by
  have hl : l.length = n := by have := h.1; unfold intsZ at this; rw [List.length_map] at this; omega
  rcases h.2 with ⟨h0, _⟩ | ⟨g', cap', cur, hv, hb, hh, hc, _, _, ht⟩
  · cases h0
  · cases hv
    refine ⟨⟨cur, hh, fun j hj => ?_, by omega⟩, hb⟩
    have h1 : (cur.toList.take (n * 1))[j]? = (intsZ l)[j]? := by rw [ht]
    rw [List.getElem?_take, if_pos (by omega), Array.getElem?_toList] at h1
    rw [h1]
    simp [intsZ, List.getD, hj]
theorem owns_empty3 (w : World) : (w.alloc (.cells #[] 3)).ownsRow w.heap.size 3 1 (.slice (some ⟨w.heap.size, 0, none⟩) 0 0) 0 [] :=
  ⟨rfl, .inr ⟨w.heap.size, 0, #[], rfl, Nat.le_refl _, heap_alloc_new _ _, Nat.le_refl _, Nat.zero_le _, rfl, rfl⟩⟩
theorem intsN_Z (id : List Nat) (n : Nat) : intsN (ordL id n) = intsZ (ordI id n) := by unfold intsN intsZ ordI; rw [List.map_map]; rfl
set_option maxHeartbeats 1600000 in
set_option maxRecDepth 100000 in
theorem cloneI_any (g cap : Nat) (l : List Int) (w : World) (h : RowI w g cap l) (hl : l.length ≤ 1000) :
    Calls Try.prog 74 #[.slice (some ⟨g, 0, none⟩) l.length cap] w fun e w' => ∃ g' cap', e = .returned (.slice (some ⟨g', 0, none⟩) l.length cap') ∧ RowI w' g' cap' l ∧ w.heap.size ≤ g' ∧ Below w.heap.size w w' := by
  obtain ⟨i3, hi3, hz0, hz1, hz2⟩ := info_parts info3
  have Hown := Hf.mk (owns_empty3 w)
  have HB : Hf (Below w.heap.size w (w.alloc (.cells #[] 3))) := ⟨(Below.refl _ _).alloc (Nat.le_refl _) _⟩
  have hnil := Lib.run_eql_slice_nil (P := Try.prog) w 34 3 (some ⟨g, 0, none⟩) l.length cap 0 0 Try.underlying34
  have HC : Hf (∀ j u, (intsZ l)[j]? = some u → (w.alloc (.cells #[] 3)).cell? ((⟨g, 0, none⟩ : Addr).add j) = some u) := ⟨by
    obtain ⟨cur, h1, h2, h3⟩ := h.below HB.out
    intro j u hu
    unfold intsZ at hu
    rw [List.getElem?_map] at hu
    obtain ⟨x, hx, rfl⟩ := Option.map_eq_some_iff.1 hu
    have hj := (List.getElem?_eq_some_iff.1 hx).1
    rw [Addr.add_lit, Go.Joins.cell_of_block h1, Nat.zero_add, h2 j hj, List.getD_eq_getElem?_getD, hx]; rfl⟩
  have HO : Hf (∀ u ∈ intsZ l, u.oneCell' = true) := ⟨fun u hu => by obtain ⟨x, _, rfl⟩ := List.mem_map.1 hu; rfl⟩
  have HL : Hf ((intsZ l).length = l.length * 1) := ⟨by unfold intsZ; rw [List.length_map, Nat.mul_one]⟩
  clear h
  go_enter Try.func74, Try.ntmps74
  go_wp2_with (at_builtin; (refine wpList_append_own _ rfl (.tmp 5) (.tmp 6) 34 rfl w.heap.size 3 i3 (.int .i64 0) 1 8 Try.underlying34 hi3 hz0 hz1 hz2 rfl (by decide) (.slice (some ⟨w.heap.size, 0, none⟩) 0 0) 0 [] rfl Hown.out ⟨g, 0, none⟩ l.length cap (intsZ l) rfl HL.out HC.out HO.out (by unfold maxLen; omega) (by omega) (by simp) ?_; intro v1 w1 ho hg hn; have HO1 := Hf.mk ho; have HN1 := Hf.mk hn; have HB1 : Hf (Below w.heap.size w w1) := ⟨HB.out.grown hg (by simp) (fun k hk => by obtain rfl : w.heap.size = k := (by simpa [Value.ownBlock] using hk); exact Nat.le_refl _)⟩; clear ho hg hn))
  go_ret
  rcases HO1.out.2 with ⟨rfl, h0⟩ | ⟨g', cap', cur, rfl, hx⟩
  · exact absurd (HN1.out.1 rfl).1 (by simp)
  · have ho := HO1.out
    rw [Nat.zero_add, List.nil_append] at ho
    obtain ⟨h1, h2⟩ := rowI_own ho
    exact ⟨g', cap', by simp, h1, h2, HB1.out⟩
/-- a read as it is made -/
def madeR (set : Int) (id : List Nat) (me nodes copies cn cb cc retry pat : Int) : Rdr :=
  { set := set, id := id, me := me, copies := copies, cn := cn, cb := cb, cc := cc, retry := retry, pat := pat, st := 0, ord := (ordI id nodes.toNat).filter (fun x => !(x == me)), homes := ((ordI id nodes.toNat).take copies.toNat).filter (fun x => !(x == me)), kn := List.replicate 64 0, data := [], err := 0, ticks := 0, all := 0 }
theorem built_read (set : Int) (id : List Nat) (me nodes copies cn cb cc retry pat : Int) (h : id.length = 32) :
    Try.prog.built 125 [(0, .int .i64 set), (1, .agg (cellsOf id).toArray), (2, .int .i64 me), (3, .int .i64 copies), (4, .agg #[.int .i64 cn, .int .i64 cb, .int .i64 cc]), (5, .int .i64 retry), (6, .int .i64 pat)] = some ((List.range 111).map (Rf (madeR set id me nodes copies cn cb cc retry pat) (.slice none 0 0) (.slice none 0 0) (.slice none 0 0))).toArray := by
  obtain ⟨x0, x1, x2, x3, x4, x5, x6, x7, x8, x9, x10, x11, x12, x13, x14, x15, x16, x17, x18, x19, x20, x21, x22, x23, x24, x25, x26, x27, x28, x29, x30, x31, rfl⟩ := list32 id h
  kernel_rfl
theorem rblk_made {w : World} {p : Nat} {f : Nat → Value} (h : w.heap[p]? = some (.cells ((List.range 111).map f).toArray 125 (0, 0))) : RBlk w p f := by
  refine ⟨_, h, by simp, fun i hi => ?_⟩
  simp [hi]
/-- numbers that may be -/
def rng (x : Int) : Prop := 1 ≤ x ∧ x ≤ 2147483647
instance (x : Int) : Decidable (rng x) := inferInstanceAs (Decidable (_ ∧ _))
def newOk (set me nodes copies cn cb cc retry pat : Int) : Prop := (rng set ∧ rng cb ∧ rng cc ∧ rng retry ∧ rng pat) ∧ (1 ≤ nodes ∧ nodes ≤ 64) ∧ 1 ≤ copies ∧ copies ≤ nodes ∧ 1 ≤ me ∧ me ≤ nodes ∧ cn = me
theorem any5 (a b c d e : Int) : ([a, b, c, d, e].take 5).any (fun x => decide (x < 1) || decide (2147483647 < x)) = !decide (rng a ∧ rng b ∧ rng c ∧ rng d ∧ rng e) := by
  have h : ∀ x : Int, (decide (x < 1) || decide (2147483647 < x)) = !decide (rng x) := fun x => by
    by_cases h1 : x < 1
    · have : ¬ rng x := fun h => by have := h.1; omega
      simp [h1, this]
    · by_cases h2 : 2147483647 < x
      · have : ¬ rng x := fun h => by have := h.2; omega
        simp [h2, this]
      · have : rng x := ⟨by omega, by omega⟩
        simp [h1, h2, this]
  simp only [List.take_succ_cons, List.take_zero, List.any_cons, List.any_nil, h, Bool.decide_and, Bool.or_false, Bool.not_and]
structure NewW (w0 W : World) (zs : Array Value) (me cn cb cc : Int) : Prop where
  below : Below w0.heap.size w0 W
  size : w0.heap.size + 3 ≤ W.heap.size
  idb : W.heap[w0.heap.size]? = some (.cells zs 23 (0, 0))
  meb : W.heap[w0.heap.size + 1]? = some (.cells #[.int .i64 me] 3 (0, 0))
  cab : W.heap[w0.heap.size + 1 + 1]? = some (.cells #[.int .i64 cn, .int .i64 cb, .int .i64 cc] 56 (0, 0))
theorem NewW.later {w0 W W' : World} {zs : Array Value} {me cn cb cc : Int} (h : NewW w0 W zs me cn cb cc) (hb : Below W.heap.size W W') : NewW w0 W' zs me cn cb cc := by
  have hs := h.size
  exact ⟨h.below.trans (hb.mono (by omega)), Nat.le_trans hs hb.size, (hb.block _ (by omega)).trans h.idb, (hb.block _ (by omega)).trans h.meb, (hb.block _ (by omega)).trans h.cab⟩
theorem newW_start (w : World) (zs : Array Value) (me cn cb cc : Int) : NewW w (((w.alloc (.cells zs 23)).alloc (.cells #[.int .i64 me] 3)).alloc (.cells #[.int .i64 cn, .int .i64 cb, .int .i64 cc] 56)) zs me cn cb cc := by
  have e1 := heap_alloc_new w (.cells zs 23)
  have e2 := heap_alloc_new (w.alloc (.cells zs 23)) (.cells #[.int .i64 me] 3)
  have e3 := heap_alloc_new ((w.alloc (.cells zs 23)).alloc (.cells #[.int .i64 me] 3)) (.cells #[.int .i64 cn, .int .i64 cb, .int .i64 cc] 56)
  rw [World.size_alloc] at e2
  rw [World.size_alloc, World.size_alloc] at e3
  refine ⟨(((Below.refl _ _).alloc (Nat.le_refl _) _).alloc (by simp) _).alloc (by simp; omega) _, by simp, ?_, ?_, e3⟩
  · exact (Below.heap_alloc _ _ _ (by simp; omega)).trans ((Below.heap_alloc _ _ _ (by simp)).trans e1)
  · exact (Below.heap_alloc _ _ _ (by simp)).trans e2
theorem NewW.grown {w0 W W' : World} {zs : Array Value} {me cn cb cc : Int} (h : NewW w0 W zs me cn cb cc) {q : Nat} (hg : W.grownBy W' (some q)) (hq : w0.heap.size + 3 ≤ q) : NewW w0 W' zs me cn cb cc := by
  have hs := h.size
  have k : ∀ i, i < w0.heap.size + 3 → W'.heap[i]? = W.heap[i]? := fun i hi => hg.block i (by omega) (by intro e; injection e with e; omega)
  exact ⟨h.below.grown hg (by omega) (fun k hk => by injection hk with hk; omega), Nat.le_trans hs hg.size, (k _ (by omega)).trans h.idb, (k _ (by omega)).trans h.meb, (k _ (by omega)).trans h.cab⟩
theorem contains5 (W : World) (a b c d e : Int) : Calls Try.prog 70 #[.slice (some ⟨W.heap.size, 0, none⟩) 5 5, .func (.func 71) #[] #[]] (W.alloc (.cells #[.int .i64 a, .int .i64 b, .int .i64 c, .int .i64 d, .int .i64 e] 3)) fun r w' => r = .returned (.bool (!decide (rng a ∧ rng b ∧ rng c ∧ rng d ∧ rng e))) ∧ Below W.heap.size W w' := by
  have h := containsI_any W.heap.size 0 5 5 [a, b, c, d, e] (W.alloc (.cells #[.int .i64 a, .int .i64 b, .int .i64 c, .int .i64 d, .int .i64 e] 3)) (by simp) (by omega) (fun j hj => by
    rw [Go.Joins.cell_of_block (heap_alloc_new _ _), Nat.zero_add]
    simp only [List.length_cons, List.length_nil] at hj
    have : j = 0 ∨ j = 1 ∨ j = 2 ∨ j = 3 ∨ j = 4 := by omega
    rcases this with rfl | rfl | rfl | rfl | rfl <;> rfl)
  rw [any5] at h
  refine h.mono fun r w' hh => ?_
  obtain ⟨he, q, rfl⟩ := hh
  exact ⟨he, below_drewN ((Below.refl _ _).alloc (Nat.le_refl _) _) q⟩
theorem range_blk {w : World} {g : Nat} {cs : List Value} {t : TypeId} {fr : Nat × Nat} (h : w.heap[g]? = some (.cells cs.toArray t fr)) : w.rangeAt g 0 cs := fun j v hv => by
  rw [Go.Joins.cell_of_block h, Nat.zero_add]
  simpa using hv
theorem deleteI_row {w : World} {g cap : Nat} {l r : List Int} (h : RowI w g cap l) (hl : l.length ≤ 1000) (me : Int) (B : Nat) (hB : B < w.heap.size) (hne : B ≠ g) (hcell : w.cell? ⟨B, 0, none⟩ = some (.int .i64 me)) (hr : r = l.filter fun x => !(x == me)) :
    Calls Try.prog 73 #[.slice (some ⟨g, 0, none⟩) l.length cap, .func (.func 72) #[] #[.pointer (some ⟨B, 0, none⟩)]] w fun e w' => e = .returned (.slice (some ⟨g, 0, none⟩) r.length cap) ∧ RdI w' (some ⟨g, 0, none⟩) r ∧ AtT w' (some ⟨g, 0, none⟩) 3 ∧ w.grownBy w' (some g) := by
  subst hr
  obtain ⟨cur, h1, h2, h3⟩ := h
  exact deleteI_any g cap cur l me B w h1 hl h2 h3 hB hne hcell
theorem wpList_builtE {ops : Array Oper} {rest : List Oper} {o : Oper} {a : Act} {w : World} {Q : Exit → Act → World → Prop} (hg : o.guard = none) (t : TypeId) (parts : Array (Nat × Operand)) (ho : o.op = .build t parts)
    (ps : List (Nat × Value)) (hp : (parts.map fun (i, x) => (i, a.eval x)).toList = ps) (cells : Array Value) (hb : Try.prog.built t ps = some cells)
    (h : wpList Try.prog ops Q rest (a.put o.dst (.agg cells)) w) : wpList Try.prog ops Q (o :: rest) a w :=
  wpList_build hg t parts ho (by rw [hp, hb]; rfl) (by rw [hp, hb]; exact h)
/-- what lies where a read is made -/
structure Mk (w W : World) (p g cap : Nat) (l : List Int) (f : Nat → Value) (zs : Array Value) (me cn cb cc : Int) : Prop where
  nw : NewW w W zs me cn cb cc
  p3 : w.heap.size + 3 ≤ p
  g3 : w.heap.size + 3 ≤ g
  ne : g ≠ p
  blk : RBlk W p f
  row : RowI W g cap l
section
variable {w W W' : World} {p g cap : Nat} {l : List Int} {f : Nat → Value} {zs : Array Value} {me cn cb cc : Int}
theorem Mk.later (h : Mk w W p g cap l f zs me cn cb cc) (hb : Below W.heap.size W W') : Mk w W' p g cap l f zs me cn cb cc :=
  ⟨h.nw.later hb, h.p3, h.g3, h.ne, h.blk.keep (hb.block _ h.blk.lt), h.row.below hb⟩
theorem Mk.del (h : Mk w W p g cap l f zs me cn cb cc) {q : Nat} (hg : W.grownBy W' (some q)) (h3 : w.heap.size + 3 ≤ q) (hp : q ≠ p) (hq : q ≠ g) : Mk w W' p g cap l f zs me cn cb cc := by
  refine ⟨h.nw.grown hg h3, h.p3, h.g3, h.ne, h.blk.keep (hg.block _ h.blk.lt (by intro e; injection e with e; omega)), ?_⟩
  obtain ⟨cur, h1, h2⟩ := h.row
  exact ⟨cur, (hg.block _ h.row.lt (by intro e; injection e with e; omega)).trans h1, h2⟩
theorem Mk.put (h : Mk w W p g cap l f zs me cn cb cc) {j : Nat} (hj : j < 111) (v : Value) : Mk w (W.setCell ⟨p, j, none⟩ v) p g cap l (fun i => if i = j then v else f i) zs me cn cb cc := by
  have hg := grownBy_set W p j v
  refine ⟨h.nw.grown hg h.p3, h.p3, h.g3, h.ne, h.blk.put hj v, ?_⟩
  obtain ⟨cur, h1, h2⟩ := h.row
  exact ⟨cur, (hg.block _ h.row.lt (by intro e; injection e with e; exact h.ne e)).trans h1, h2⟩
theorem Mk.rat (h : Mk w W p g cap l f zs me cn cb cc) {g2 c2 : Nat} {R : Rdr} (hf : ∀ i, i < 111 → i ≠ 41 → f i = Rf R (.slice none 0 0) (.slice (some ⟨g2, 0, none⟩) R.homes.length c2) (.slice none 0 0) i) (hd : R.data = []) (h2 : RdI W (some ⟨g2, 0, none⟩) R.homes) (t2 : AtT W (some ⟨g2, 0, none⟩) 3) (hne : g2 ≠ p) (hne2 : g2 ≠ g)
    (hg : W.grownBy W' (some g)) (h1 : RdI W' (some ⟨g, 0, none⟩) R.ord) (t1 : AtT W' (some ⟨g, 0, none⟩) 3) :
    RAt (W'.setCell ⟨p, 41, none⟩ (.slice (some ⟨g, 0, none⟩) R.ord.length cap)) p R (some ⟨g, 0, none⟩) cap (some ⟨g2, 0, none⟩) c2 none 0 ∧ Below w.heap.size w (W'.setCell ⟨p, 41, none⟩ (.slice (some ⟨g, 0, none⟩) R.ord.length cap)) := by
  have hp3 := h.p3
  have hb2 := (h.blk.keep (hg.block _ h.blk.lt (by intro e; injection e with e; exact h.ne e.symm))).put (j := 41) (by decide) (.slice (some ⟨g, 0, none⟩) R.ord.length cap)
  have hs := grownBy_set W' p 41 (.slice (some ⟨g, 0, none⟩) R.ord.length cap)
  have k2 : ∀ ad, (some ⟨g2, 0, none⟩ : Option Addr) = some ad → W'.heap[ad.block]? = W.heap[ad.block]? := fun ad ha => hg.block _ (t2.lt ha) (by cases ha; intro e; injection e with e; exact hne2 e)
  have k3 : ∀ ad, (some ⟨g2, 0, none⟩ : Option Addr) = some ad → (W'.setCell ⟨p, 41, none⟩ (.slice (some ⟨g, 0, none⟩) R.ord.length cap)).heap[ad.block]? = W'.heap[ad.block]? := fun ad ha => hs.block _ ((t2.keep k2).lt ha) (by cases ha; intro e; injection e with e; exact hne e)
  have k1 : ∀ ad, (some ⟨g, 0, none⟩ : Option Addr) = some ad → (W'.setCell ⟨p, 41, none⟩ (.slice (some ⟨g, 0, none⟩) R.ord.length cap)).heap[ad.block]? = W'.heap[ad.block]? := fun ad ha => hs.block _ (t1.lt ha) (by cases ha; intro e; injection e with e; exact h.ne e)
  refine ⟨⟨hb2.congr fun i hi => ?_, h1.keep hs.size k1, (h2.keep hg.size k2).keep hs.size k3, by rw [hd]; exact given_nil _, t1.keep k1, (t2.keep k2).keep k3, AtT.nil _ _⟩, ?_⟩
  · show (if i = 41 then _ else f i) = _
    by_cases e : i = 41
    · subst e; rfl
    · rw [if_neg e, hf i hi e, hd]
      unfold Rf
      simp [e]
  · exact (h.nw.below.grown hg (by have := h.nw.size; omega) (fun k hk => by injection hk with hk; have := h.g3; omega)).setCell (by show w.heap.size ≤ p; omega) _
end
set_option maxHeartbeats 4000000 in
set_option maxRecDepth 100000 in
theorem new_any (set : Int) (id : List Nat) (me nodes copies cn cb cc retry pat : Int) (w : World) (hl : id.length = 32) (hb : ∀ c ∈ id, c < 256) (ok : newOk set me nodes copies cn cb cc retry pat) :
    Calls Try.prog 37 #[.int .i64 set, .agg (cellsOf id).toArray, .int .i64 me, .int .i64 nodes, .int .i64 copies, .agg #[.int .i64 cn, .int .i64 cb, .int .i64 cc], .int .i64 retry, .int .i64 pat] w fun e w' => ∃ p a1 c1 a2 c2, e = .returned (.tuple #[.pointer (some ⟨p, 0, none⟩), .int .i64 0]) ∧ w.heap.size ≤ p ∧ RAt w' p (madeR set id me nodes copies cn cb cc retry pat) a1 c1 a2 c2 none 0 ∧ Below w.heap.size w w' := by
  have HBT := Hf.mk (built_read set id me nodes copies cn cb cc retry pat hl)
  have HZ : Hf ((cellsOf id).toArray.size = 32) := ⟨by rw [List.size_toArray, cellsOf_length, hl]⟩
  have HOR := Hf.mk (fun n h1 h2 u => ordered_any id n u hl hb h1 h2)
  have HN := Hf.mk (newW_start w (cellsOf id).toArray me cn cb cc)
  have HCL : Hf ((cellsOf id).length = 32) := ⟨by rw [cellsOf_length, hl]⟩
  generalize cellsOf id = zl at *
  have H5 := Hf.mk (fun u => contains5 u set cb cc retry pat)
  rw [decide_eq_true ok.1] at H5
  obtain ⟨_, ⟨hn1, hn2⟩, hc1, hc2, hm1, hm2, hcm⟩ := ok
  subst hcm
  obtain ⟨k, rfl⟩ : ∃ k : Nat, nodes = k := ⟨nodes.toNat, by omega⟩
  obtain ⟨c, rfl⟩ : ∃ k : Nat, copies = k := ⟨copies.toNat, by omega⟩
  have HKL := Hf.mk (ordI_len id k)
  have hk64 : k ≤ 64 := by omega
  have hck : c ≤ k := by omega
  have HTL : Hf (((ordI id k).take c).length = c) := ⟨by rw [List.length_take, HKL.out]; omega⟩
  have HFA : Hf ((madeR set id cn k c cn cb cc retry pat).ord = (ordI id k).filter (fun x => !(x == cn)) ∧ (madeR set id cn k c cn cb cc retry pat).homes = ((ordI id k).take c).filter (fun x => !(x == cn)) ∧ (madeR set id cn k c cn cb cc retry pat).data = []) := ⟨rfl, rfl, rfl⟩
  generalize madeR set id cn k c cn cb cc retry pat = R at *
  generalize hfs : (List.range 111).map (Rf R (.slice none 0 0) (.slice none 0 0) (.slice none 0 0)) = fs at *
  have HFS := Hf.mk hfs
  clear hfs
  go_enter Try.func37, Try.ntmps37
  go_upto_region 1 with fail
  generalize ((w.alloc (.cells zl.toArray 23)).alloc (.cells #[.int .i64 cn] 3)).alloc (.cells #[.int .i64 cn, .int .i64 cb, .int .i64 cc] 56) = W at *
  have qb := (Go.Joins.cell_of_block HN.out.cab 1).trans rfl
  have qc := (Go.Joins.cell_of_block HN.out.cab 2).trans rfl
  go_upto_region 3 with (go_at_call 70; (with_reducible refine (H5.out _).mono ?_); rintro e w2 ⟨rfl, hb2⟩; have HN2 := Hf.mk (HN.out.later hb2); clear hb2)
  clear HN qb qc
  have HOK2 := Hf.mk (HOR.out k (by omega) (by omega) w2)
  rw [intsN_Z] at HOK2
  go_upto_region 4 with (first
    | (with_reducible refine wpList_load_row rfl 23 _ rfl w.heap.size rfl 23 zl.toArray (0, 0) _ HN2.out.idb Try.underlying23 rfl (size23.trans (by rw [HZ.out])) ?_)
    | (go_at_call 24; (with_reducible refine HOK2.out.mono ?_); rintro e w3 ⟨g, cap, rfl, ho3, hb3⟩; obtain ⟨hr3, hg3⟩ := rowI_own ho3; have HR3 := Hf.mk hr3; have HG3 := Hf.mk (show w.heap.size + 3 ≤ g by have := HN2.out.size; omega); have HN3 := Hf.mk (HN2.out.later hb3); clear ho3 hb3 hr3 hg3))
  clear HOK2 HN2 HOR
  have q0 := (Go.Joins.cell_of_block HN3.out.cab 0).trans rfl
  have q1 := (Go.Joins.cell_of_block HN3.out.cab 1).trans rfl
  have q2 := (Go.Joins.cell_of_block HN3.out.cab 2).trans rfl
  have qm := (Go.Joins.cell_of_block HN3.out.meb 0).trans rfl
  go_upto_region 8 with (first
    | (with_reducible refine wpList_load_row rfl 23 _ rfl w.heap.size rfl 23 zl.toArray (0, 0) _ HN3.out.idb Try.underlying23 rfl (size23.trans (by rw [HZ.out])) ?_)
    | (refine wpList_builtE rfl 125 _ rfl _ (by simp [Act.eval, Act.put]) _ HBT.out ?_))
  have HK4 : Hf (Mk w (w3.alloc (.cells fs.toArray 125)) w3.heap.size g cap (ordI id k) (Rf R (.slice none 0 0) (.slice none 0 0) (.slice none 0 0)) zl.toArray cn cn cb cc) := ⟨by
    have hb4 : Below w3.heap.size w3 (w3.alloc (.cells fs.toArray 125)) := (Below.refl _ _).alloc (Nat.le_refl _) _
    exact ⟨HN3.out.later hb4, HN3.out.size, HG3.out, Nat.ne_of_lt HR3.out.lt, rblk_made (by rw [HFS.out]; exact heap_alloc_new _ _), HR3.out.below hb4⟩⟩
  generalize w3.alloc (.cells fs.toArray 125) = w4 at *
  generalize w3.heap.size = p at *
  have hcap : (c : Int) ≤ (cap : Int) := by
    obtain ⟨cur, _, _, h3⟩ := HR3.out
    rw [HKL.out] at h3
    omega
  have hc0 : (0 : Int) ≤ (c : Int) := by omega
  clear q0 q1 q2 qm HN3 HFS HBT HR3 H5
  have HC4 := Hf.mk (cloneI_any g cap ((ordI id k).take c) w4 (HK4.out.row.take c) (by rw [HTL.out]; omega))
  rw [HTL.out] at HC4
  go_upto_region 9 with (first
    | (go_at_call 74; (with_reducible refine HC4.out.mono ?_); rintro e w5 ⟨g2, c2, rfl, hr5, hg5, hb5⟩; have HR5 := Hf.mk hr5; have HK5 := Hf.mk (HK4.out.later hb5); have HG5 := Hf.mk (And.intro (show w.heap.size + 3 ≤ g2 by have := HK4.out.nw.size; omega) (And.intro (show g2 ≠ p by have := HK4.out.blk.lt; omega) (show g2 ≠ g by have := HK4.out.row.lt; omega))); have hd5 := deleteI_row HR5.out (by rw [HTL.out]; omega) cn (w.heap.size + 1) (by have := HK5.out.nw.size; omega) (by have := HG5.out.1; omega) ((Go.Joins.cell_of_block HK5.out.nw.meb 0).trans rfl) HFA.out.2.1; rw [HTL.out] at hd5; have HD5 := Hf.mk hd5; clear hr5 hg5 hb5 hd5)
    | (go_at_call 73; (with_reducible refine HD5.out.mono ?_); rintro e w6 ⟨rfl, hr6, ht6, hg6⟩; have HK6 := Hf.mk (HK5.out.del hg6 HG5.out.1 HG5.out.2.1 HG5.out.2.2); have HR6 := Hf.mk hr6; have HT6 := Hf.mk ht6; have qs := HK6.out.blk.cell (i := 42) (by decide); have qf := HK6.out.blk.free 42; clear hr6 ht6 hg6))
  have HR7 : Hf (RdI (w6.setCell ⟨p, 42, none⟩ (.slice (some ⟨g2, 0, none⟩) R.homes.length c2)) (some ⟨g2, 0, none⟩) R.homes ∧ AtT (w6.setCell ⟨p, 42, none⟩ (.slice (some ⟨g2, 0, none⟩) R.homes.length c2)) (some ⟨g2, 0, none⟩) 3) := ⟨by
    have hs := grownBy_set w6 p 42 (.slice (some ⟨g2, 0, none⟩) R.homes.length c2)
    have k : ∀ ad, (some ⟨g2, 0, none⟩ : Option Addr) = some ad → (w6.setCell ⟨p, 42, none⟩ (.slice (some ⟨g2, 0, none⟩) R.homes.length c2)).heap[ad.block]? = w6.heap[ad.block]? := fun ad ha => hs.block _ (HT6.out.lt ha) (by cases ha; intro e; injection e with e; exact HG5.out.2.1 e)
    exact ⟨HR6.out.keep hs.size k, HT6.out.keep k⟩⟩
  have HK7 := Hf.mk (HK6.out.put (j := 42) (by decide) (.slice (some ⟨g2, 0, none⟩) R.homes.length c2))
  generalize w6.setCell ⟨p, 42, none⟩ (.slice (some ⟨g2, 0, none⟩) R.homes.length c2) = w7 at *
  clear qs qf HK6 HR6 HT6 HK5 HR5 HD5 HC4 HK4
  have hd7 := deleteI_row HK7.out.row (by rw [HKL.out]; omega) cn (w.heap.size + 1) (by have := HK7.out.nw.size; omega) (by have := HK7.out.g3; omega) ((Go.Joins.cell_of_block HK7.out.nw.meb 0).trans rfl) HFA.out.1
  rw [HKL.out] at hd7
  have HD7 := Hf.mk hd7
  clear hd7
  go_upto_region 10 with (go_at_call 73; (with_reducible refine HD7.out.mono ?_); rintro e w8 ⟨rfl, hr8, ht8, hg8⟩; have qb := HK7.out.blk.keep (hg8.block _ HK7.out.blk.lt (by intro e; injection e with e; exact HK7.out.ne e.symm)); have HRR := Hf.mk (HK7.out.rat (R := R) (g2 := g2) (c2 := c2) (fun i hi h41 => by
      show (if i = 42 then _ else _) = _
      by_cases e : i = 42
      · subst e; rfl
      · rw [if_neg e]; unfold Rf; simp [e, h41]) HFA.out.2.2 HR7.out.1 HR7.out.2 HG5.out.2.1 HG5.out.2.2 hg8 hr8 ht8); have qs := qb.cell (i := 41) (by decide); have qf := qb.free 41; clear hr8 ht8 hg8 qb)
  go_wp2
  go_ret2
  exact ⟨p, _, _, _, _, rfl, by have := HK7.out.p3; omega, HRR.out.1, HRR.out.2⟩
set_option maxHeartbeats 4000000 in
set_option maxRecDepth 100000 in
theorem new_bad (set : Int) (id : List Nat) (me nodes copies cn cb cc retry pat : Int) (w : World) (hl : id.length = 32) (hb : ∀ c ∈ id, c < 256) (ok : ¬ newOk set me nodes copies cn cb cc retry pat) :
    Calls Try.prog 37 #[.int .i64 set, .agg (cellsOf id).toArray, .int .i64 me, .int .i64 nodes, .int .i64 copies, .agg #[.int .i64 cn, .int .i64 cb, .int .i64 cc], .int .i64 retry, .int .i64 pat] w fun e w' => e = .returned (.tuple #[.pointer none, .int .i64 2]) ∧ Below w.heap.size w w' := by
  have HZ : Hf ((cellsOf id).toArray.size = 32) := ⟨by rw [List.size_toArray, cellsOf_length, hl]⟩
  have HOR := Hf.mk (fun n h1 h2 u => ordered_any id n u hl hb h1 h2)
  have HOB := Hf.mk (fun n u h => order_bad id n u h)
  have HN := Hf.mk (newW_start w (cellsOf id).toArray me cn cb cc)
  generalize (cellsOf id).toArray = zs at *
  have H5 := Hf.mk (fun u => contains5 u set cb cc retry pat)
  by_cases h5 : rng set ∧ rng cb ∧ rng cc ∧ rng retry ∧ rng pat
  · rw [decide_eq_true h5] at H5
    have hbad : ¬ ((1 ≤ nodes ∧ nodes ≤ 64) ∧ 1 ≤ copies ∧ copies ≤ nodes ∧ 1 ≤ me ∧ me ≤ nodes ∧ cn = me) := fun h => ok ⟨h5, h⟩
    clear h5 ok
    go_enter Try.func37, Try.ntmps37
    go_upto_region 1 with fail
    generalize ((w.alloc (.cells zs 23)).alloc (.cells #[.int .i64 me] 3)).alloc (.cells #[.int .i64 cn, .int .i64 cb, .int .i64 cc] 56) = W at *
    have qb := (Go.Joins.cell_of_block HN.out.cab 1).trans rfl
    have qc := (Go.Joins.cell_of_block HN.out.cab 2).trans rfl
    go_upto_region 3 with (go_at_call 70; (with_reducible refine (H5.out _).mono ?_); rintro e w2 ⟨rfl, hb2⟩; have HN2 := Hf.mk (HN.out.later hb2); clear hb2)
    clear HN qb qc
    by_cases hn : 1 ≤ nodes ∧ nodes ≤ 64
    · obtain ⟨k, rfl⟩ : ∃ k : Nat, nodes = k := ⟨nodes.toNat, by omega⟩
      have HOK2 := Hf.mk (HOR.out k (by omega) (by omega) w2)
      go_upto_region 4 with (first
        | (with_reducible refine wpList_load_row rfl 23 _ rfl w.heap.size rfl 23 zs (0, 0) _ HN2.out.idb Try.underlying23 rfl (size23.trans (by rw [HZ.out])) ?_)
        | (go_at_call 24; (with_reducible refine HOK2.out.mono ?_); rintro e w3 ⟨g, cap, rfl, ho3, hb3⟩; have HN3 := Hf.mk (HN2.out.later hb3); clear ho3 hb3))
      have q0 := (Go.Joins.cell_of_block HN3.out.cab 0).trans rfl
      have qm := (Go.Joins.cell_of_block HN3.out.meb 0).trans rfl
      by_cases c1 : copies < 1
      · go_wp2
        go_ret2
        exact ⟨rfl, HN3.out.below⟩
      · have c1' : 1 ≤ copies := by omega
        by_cases c2 : (k : Int) < copies
        · clear c1
          go_wp2
          go_ret2
          exact ⟨rfl, HN3.out.below⟩
        · have c2' : copies ≤ (k : Int) := by omega
          by_cases c3 : me < 1
          · clear c1 c2
            go_wp2
            go_ret2
            exact ⟨rfl, HN3.out.below⟩
          · have c3' : 1 ≤ me := by omega
            by_cases c4 : (k : Int) < me
            · clear c1 c2 c3
              go_wp2
              go_ret2
              exact ⟨rfl, HN3.out.below⟩
            · have c4' : me ≤ (k : Int) := by omega
              have c5 : ¬ cn = me := fun h => hbad ⟨hn, c1', c2', c3', c4', h⟩
              have c5' : (cn != me) = true := by rw [bne, beq_eq_false_iff_ne.2 c5]; rfl
              clear c1 c2 c3 c4
              go_wp2
              go_ret2
              exact ⟨rfl, HN3.out.below⟩
    · have HOB2 := Hf.mk (HOB.out nodes w2 hn)
      go_upto_region 4 with (first
        | (with_reducible refine wpList_load_row rfl 23 _ rfl w.heap.size rfl 23 zs (0, 0) _ HN2.out.idb Try.underlying23 rfl (size23.trans (by rw [HZ.out])) ?_)
        | (go_at_call 24; (with_reducible refine HOB2.out.mono ?_); rintro e w3 ⟨rfl, hb3⟩; have HN3 := Hf.mk (HN2.out.later hb3); clear hb3))
      have q0 := (Go.Joins.cell_of_block HN3.out.cab 0).trans rfl
      have qm := (Go.Joins.cell_of_block HN3.out.meb 0).trans rfl
      go_wp2
      go_ret2
      exact ⟨rfl, HN3.out.below⟩
  · rw [decide_eq_false h5] at H5
    clear h5 ok
    go_enter Try.func37, Try.ntmps37
    go_upto_region 1 with fail
    generalize ((w.alloc (.cells zs 23)).alloc (.cells #[.int .i64 me] 3)).alloc (.cells #[.int .i64 cn, .int .i64 cb, .int .i64 cc] 56) = W at *
    have qb := (Go.Joins.cell_of_block HN.out.cab 1).trans rfl
    have qc := (Go.Joins.cell_of_block HN.out.cab 2).trans rfl
    go_wp2_with (go_at_call 70; (with_reducible refine (H5.out _).mono ?_); rintro e w2 ⟨rfl, hb2⟩; have HN2 := Hf.mk (HN.out.later hb2); clear hb2)
    go_ret2
    exact ⟨rfl, HN2.out.below⟩
end Go.Proofs.Ytaaepadhapfkoaa
