/-
  Digest: the state behind a block.
-/
import Derived.Test.YtaaepadhapfkoaaDgS
import Derived.Deep.DeepCutAuto
import Derived.Deep.CutBlock
import Derived.Deep.RegionHeld3
namespace Go.Proofs.Ytaaepadhapfkoaa
set_option linter.unusedSimpArgs false
set_option linter.unusedVariables false
open Go.RowKit

/-- a state's words by place -/
abbrev stF (s : Sha.St) (i : Nat) : Nat := s.l.getD i 0
abbrev kF (i : Nat) : Nat := Sha.K.getD i 0
theorem zero134 (w : World) : (zeroValue 134).run Try.prog w = .ok (.agg (Array.replicate 8 (.int .u32 0))) w := by kernel_rfl
theorem zero134' (w : World) : (zeroValue 134).run Try.prog w = .ok (.agg (arrU 8 fun _ => 0)) w := by rw [← arr_zero]; exact zero134 w
theorem done_two {w W3 w1 w2 : World} {ss ks z8 z64 ws : Array Value} (k1 : W3.heap[w.heap.size]? = some (.cells ss 134 (0, 0))) (k2 : W3.heap[w.heap.size + 1]? = some (.cells ks 131 (0, 0))) (k3 : W3.heap[w.heap.size + 2]? = some (.cells z8 134 (0, 0))) (kb : Below w.heap.size w W3)
    (hb : Below W3.heap.size W3 w1) (hw : (w1.alloc (.cells z64 131)).setRow w1.heap.size ws = w2) :
    w2.heap[w.heap.size]? = some (.cells ss 134 (0, 0)) ∧ w2.heap[w.heap.size + 1]? = some (.cells ks 131 (0, 0)) ∧ w2.heap[w.heap.size + 2]? = some (.cells z8 134 (0, 0)) ∧ w2.heap[w1.heap.size]? = some (.cells ws 131 (0, 0)) ∧ Below w.heap.size w w2 ∧ w.heap.size + 2 < w1.heap.size := by
  have hb2 : Below w1.heap.size w1 w2 := by rw [← hw]; exact Below.setRow' ((Below.refl _ _).alloc (Nat.le_refl _) _) (Nat.le_refl _) _
  have hb3 := below_step hb hb2
  have l3 := (Array.getElem?_eq_some_iff.1 k3).1
  exact ⟨(hb3.block _ (by omega)).trans k1, (hb3.block _ (by omega)).trans k2, (hb3.block _ l3).trans k3, by rw [← hw]; exact setRow_heap _ _ z64 ws 131 (0, 0) (heap_alloc_new _ _), below_step kb hb3, Nat.lt_of_lt_of_le l3 hb.size⟩
theorem done_four {w w2 w4 : World} {w1s : Nat} {ss ks z8 ws : Array Value} (k1 : w2.heap[w.heap.size]? = some (.cells ss 134 (0, 0))) (k2 : w2.heap[w.heap.size + 1]? = some (.cells ks 131 (0, 0))) (k3 : w2.heap[w.heap.size + 2]? = some (.cells z8 134 (0, 0))) (k4 : w2.heap[w1s]? = some (.cells ws 131 (0, 0)))
    (kb : Below w.heap.size w w2) (hlt : w.heap.size + 2 < w1s) (hw : (w2.alloc (.cells z8 134)).setRow w2.heap.size ss = w4) :
    w4.heap[w.heap.size]? = some (.cells ss 134 (0, 0)) ∧ w4.heap[w.heap.size + 1]? = some (.cells ks 131 (0, 0)) ∧ w4.heap[w.heap.size + 2]? = some (.cells z8 134 (0, 0)) ∧ w4.heap[w1s]? = some (.cells ws 131 (0, 0)) ∧ w4.heap[w2.heap.size]? = some (.cells ss 134 (0, 0)) ∧ Below w.heap.size w w4 ∧ w.heap.size + 2 < w1s ∧ w1s < w2.heap.size := by
  have hb2 : Below w2.heap.size w2 w4 := by rw [← hw]; exact Below.setRow' ((Below.refl _ _).alloc (Nat.le_refl _) _) (Nat.le_refl _) _
  have l4 := (Array.getElem?_eq_some_iff.1 k4).1
  exact ⟨(hb2.block _ (by omega)).trans k1, (hb2.block _ (by omega)).trans k2, (hb2.block _ (by omega)).trans k3, (hb2.block _ l4).trans k4, by rw [← hw]; exact setRow_heap _ _ z8 ss 134 (0, 0) (heap_alloc_new _ _), below_step kb hb2, hlt, l4⟩
/-- what lies in memory while a block is done -/
structure DAt (w wr : World) (gw gv : Nat) (s : Sha.St) (b : List Nat) (v : Nat → Nat) : Prop where
  fs : RowU wr w.heap.size 134 8 (stF s)
  fk : RowU wr (w.heap.size + 1) 131 64 kF
  fr : RowU wr (w.heap.size + 2) 134 8 (fun _ => 0)
  fw : RowU wr gw 131 64 (Sha.W b)
  fv : RowU wr gv 134 8 v
  hb : Below w.heap.size w wr
  l1 : w.heap.size + 2 < gw
  l2 : gw < gv
theorem DAt.below {w wr u : World} {gw gv : Nat} {s : Sha.St} {b : List Nat} {v : Nat → Nat} (h : DAt w wr gw gv s b v) (hb : Below wr.heap.size wr u) : DAt w u gw gv s b v :=
  ⟨h.fs.below hb, h.fk.below hb, h.fr.below hb, h.fw.below hb, h.fv.below hb, below_step h.hb hb, h.l1, h.l2⟩
theorem DAt.set {w wr : World} {gw gv : Nat} {s : Sha.St} {b : List Nat} {v : Nat → Nat} (h : DAt w wr gw gv s b v) {j : Nat} (hj : j < 8) (x : Nat) : DAt w (wr.setCell ⟨gv, j, none⟩ (.int .u32 x)) gw gv s b (fun i => if i = j then x else v i) := by
  have l1 := h.l1
  have l2 := h.l2
  exact ⟨h.fs.other _ (by show gv ≠ w.heap.size; omega) _, h.fk.other _ (by show gv ≠ w.heap.size + 1; omega) _, h.fr.other _ (by show gv ≠ w.heap.size + 2; omega) _, h.fw.other _ (by show gv ≠ gw; omega) _, h.fv.set hj x fun _ _ => rfl, h.hb.setCell (by show w.heap.size ≤ gv; omega) _, l1, l2⟩
theorem DAt.congr {w wr : World} {gw gv : Nat} {s : Sha.St} {b : List Nat} {v v' : Nat → Nat} (h : DAt w wr gw gv s b v) (hv : ∀ i, i < 8 → v i = v' i) : DAt w wr gw gv s b v' :=
  ⟨h.fs, h.fk, h.fr, h.fw, h.fv.congr hv, h.hb, h.l1, h.l2⟩
theorem nat_comp (s : Nat) (hs : s < 4294967296) : 4294967295 ^^^ s = 4294967295 - s := by
  have h1 : (BitVec.allOnes 32 ^^^ BitVec.ofNat 32 s).toNat = 4294967295 ^^^ s := by
    rw [BitVec.toNat_xor, BitVec.toNat_allOnes, BitVec.toNat_ofNat, Nat.mod_eq_of_lt hs]
  rw [← h1, BitVec.allOnes_xor, BitVec.toNat_not, BitVec.toNat_ofNat, Nat.mod_eq_of_lt hs]
theorem comp (s : Nat) (hs : s < 4294967296) : bits .xor .u32 IntKind.u32.max (s : Int) = ((4294967295 - s : Nat) : Int) := by
  have := u32xor IntKind.u32.max (s : Int) 4294967295 s rfl rfl (by omega) hs
  rw [this, nat_comp s hs]
theorem up_val (e f g h k w : Nat) (he : e < 4294967296) (hf : f < 4294967296) (hg : g < 4294967296) :
    (h : Int) + bits .xor .u32 (bits .xor .u32 ((Sha.rot e 6 : Nat) : Int) ((Sha.rot e 11 : Nat) : Int)) ((Sha.rot e 25 : Nat) : Int) + bits .xor .u32 (bits .and .u32 (e : Int) (f : Int)) (bits .and .u32 (bits .xor .u32 IntKind.u32.max (e : Int)) (g : Int)) + (k : Int) + (w : Int) = ((h + Sha.S1 e + Sha.ch e f g + k + w : Nat) : Int) := by
  rw [xor3 _ _ _ (Sha.rot_lt he) (Sha.rot_lt he) (Sha.rot_lt he), comp e he, u32_and_nat e f he hf, u32_and_nat _ g (by omega) hg, u32_xor_nat _ _ (Sha.and_lt he) (Sha.and_lt (by omega))]
  unfold Sha.S1 Sha.ch
  omega
theorem down_val (a b c : Nat) (ha : a < 4294967296) (hb : b < 4294967296) (hc : c < 4294967296) :
    bits .xor .u32 (bits .xor .u32 ((Sha.rot a 2 : Nat) : Int) ((Sha.rot a 13 : Nat) : Int)) ((Sha.rot a 22 : Nat) : Int) + bits .xor .u32 (bits .xor .u32 (bits .and .u32 (a : Int) (b : Int)) (bits .and .u32 (a : Int) (c : Int))) (bits .and .u32 (b : Int) (c : Int)) = ((Sha.S0 a + Sha.maj a b c : Nat) : Int) := by
  rw [xor3 _ _ _ (Sha.rot_lt ha) (Sha.rot_lt ha) (Sha.rot_lt ha), u32_and_nat a b ha hb, u32_and_nat a c ha hc, u32_and_nat b c hb hc, xor3 _ _ _ (Sha.and_lt ha) (Sha.and_lt ha) (Sha.and_lt hb)]
  unfold Sha.S0 Sha.maj
  omega
theorem mod_one (x y : Nat) : ((x : Int) + (y : Int)) % 4294967296 = (((x + y % 4294967296) % 4294967296 : Nat) : Int) := by omega
theorem mod_nat (x y : Nat) : ((x : Int) + (y : Int)) % 4294967296 = (((x + y) % 4294967296 : Nat) : Int) := by omega
theorem mod_two (x y : Nat) : ((x : Int) + (y : Int)) % 4294967296 = (((x % 4294967296 + y % 4294967296) % 4294967296 : Nat) : Int) := by omega
theorem one_eq (s : Sha.St) (k w : Nat) : Sha.one s k w = (s.h + Sha.S1 s.e + Sha.ch s.e s.f s.g + k + w) % 4294967296 := by unfold Sha.one; rfl
theorem two_eq (s : Sha.St) : Sha.two s = (Sha.S0 s.a + Sha.maj s.a s.b s.c) % 4294967296 := by unfold Sha.two; rfl
theorem new4 (a b c d e f g h k w : Nat) : ((d : Int) + ((h + Sha.S1 e + Sha.ch e f g + k + w : Nat) : Int)) % 4294967296 = (((d + Sha.one ⟨a, b, c, d, e, f, g, h⟩ k w) % 4294967296 : Nat) : Int) := by
  rw [mod_one, one_eq]
theorem new0 (a b c d e f g h k w : Nat) : (((h + Sha.S1 e + Sha.ch e f g + k + w : Nat) : Int) + ((Sha.S0 a + Sha.maj a b c : Nat) : Int)) % 4294967296 = (((Sha.one ⟨a, b, c, d, e, f, g, h⟩ k w + Sha.two ⟨a, b, c, d, e, f, g, h⟩) % 4294967296 : Nat) : Int) := by
  rw [mod_two, one_eq, two_eq]
theorem stF_round (a b c d e f g h k w x0 x4 : Nat) (h0 : (Sha.one ⟨a, b, c, d, e, f, g, h⟩ k w + Sha.two ⟨a, b, c, d, e, f, g, h⟩) % 4294967296 = x0) (h4 : (d + Sha.one ⟨a, b, c, d, e, f, g, h⟩ k w) % 4294967296 = x4) (F : Nat → Nat) (i : Nat) (hi : i < 8) :
    (if i = 0 then x0 else if i = 1 then a else if i = 2 then b else if i = 3 then c else if i = 4 then x4 else if i = 5 then e else if i = 6 then f else if i = 7 then g else F i) = stF (Sha.round ⟨a, b, c, d, e, f, g, h⟩ k w) i := by
  have e : stF (Sha.round ⟨a, b, c, d, e, f, g, h⟩ k w) i = [x0, a, b, c, x4, e, f, g].getD i 0 := by
    unfold stF Sha.St.l Sha.round
    simp only [h0, h4]
  rw [e]
  have hi8 : i = 0 ∨ i = 1 ∨ i = 2 ∨ i = 3 ∨ i = 4 ∨ i = 5 ∨ i = 6 ∨ i = 7 := by omega
  rcases hi8 with rfl | rfl | rfl | rfl | rfl | rfl | rfl | rfl <;> simp
theorem add_get (s v : Sha.St) (i : Nat) (hi : i < 8) : (stF v i + stF s i) % 4294967296 = stF (s.add v) i := by
  have hi8 : i = 0 ∨ i = 1 ∨ i = 2 ∨ i = 3 ∨ i = 4 ∨ i = 5 ∨ i = 6 ∨ i = 7 := by omega
  rcases hi8 with rfl | rfl | rfl | rfl | rfl | rfl | rfl | rfl <;> simp [stF, Sha.St.l, Sha.St.add]
theorem block_eq (s : Sha.St) (b : List Nat) (n : Nat) (h : n = 64) (v : Sha.St) (hv : Sha.rounds b s n = v) : Sha.block s b = s.add v := by
  subst h
  subst hv
  unfold Sha.block
  rfl
set_option maxHeartbeats 3200000 in
set_option maxRecDepth 100000 in
theorem done_any (g off c : Nat) (b : List Nat) (s : Sha.St) (w : World) (hr : Reads w (some ⟨g, off, none⟩) b) (hb : b.length = 64) (hc : 64 ≤ c) (hcm : c ≤ 9223372036854775807) (hs : s.ok) :
    Calls Try.prog 80 #[.agg (arrU 8 (stF s)), .slice (some ⟨g, off, none⟩) 64 c, .agg (arrU 64 kF)] w fun e w' => e = .returned (.agg (arrU 8 (stF (Sha.block s b)))) ∧ Below w.heap.size w w' := by
  have HR := Hf.mk hr
  have HBL := Hf.mk hb
  have HSO := Hf.mk hs
  have h1 := arrU_size 8 (stF s)
  have h2 := arrU_one 8 (stF s)
  have h3 := arrU_size 64 kF
  have h4 := arrU_one 64 kF
  obtain ⟨ss, hss⟩ : ∃ cs, arrU 8 (stF s) = cs := ⟨_, rfl⟩
  obtain ⟨ks, hks⟩ : ∃ cs, arrU 64 kF = cs := ⟨_, rfl⟩
  rw [hss] at h1 h2 ⊢
  rw [hks] at h3 h4 ⊢
  have HSS := Hf.mk hss
  have HKS := Hf.mk hks
  have hz8 := zero134'
  have hz64 := zero131'
  have hz8s := arrU_size 8 (fun _ => 0)
  have hz64s := arrU_size 64 (fun _ => 0)
  have hw1 := arrU_size 64 (Sha.W b)
  have hw2 := arrU_one 64 (Sha.W b)
  have HSPR := Hf.mk (fun u (hb : Below w.heap.size w u) => spread_any g off c b u (HR.out.below hb) HBL.out hc hcm)
  obtain ⟨z8, hz8e⟩ : ∃ cs, arrU 8 (fun _ => 0) = cs := ⟨_, rfl⟩
  obtain ⟨z64, hz64e⟩ : ∃ cs, arrU 64 (fun _ => 0) = cs := ⟨_, rfl⟩
  obtain ⟨ws, hwse⟩ : ∃ cs, arrU 64 (Sha.W b) = cs := ⟨_, rfl⟩
  rw [hz8e] at hz8 hz8s
  rw [hz64e] at hz64 hz64s
  rw [hwse] at hw1 hw2 HSPR
  have HWS := Hf.mk hwse
  have HZ8 := Hf.mk hz8e
  have S1 := Hf.mk h1
  have S2 := Hf.mk h2
  have S3 := Hf.mk h3
  have S5 := Hf.mk hz8s
  have S6 := Hf.mk hz64s
  have S7 := Hf.mk hw1
  have S8 := Hf.mk hw2
  obtain ⟨W3, hW3⟩ : ∃ W3, ((w.alloc (.cells ss 134)).alloc (.cells ks 131)).alloc (.cells z8 134) = W3 := ⟨_, rfl⟩
  have k1 : W3.heap[w.heap.size]? = some (.cells ss 134 (0, 0)) := by rw [← hW3, Below.heap_alloc _ _ _ (by simp; omega), Below.heap_alloc _ _ _ (by simp)]; exact heap_alloc_new _ _
  have k2 : W3.heap[w.heap.size + 1]? = some (.cells ks 131 (0, 0)) := by
    have := heap_alloc_new (w.alloc (.cells ss 134)) (.cells ks 131)
    rw [World.size_alloc] at this
    rw [← hW3, Below.heap_alloc _ _ _ (by simp)]; exact this
  have k3 : W3.heap[w.heap.size + 2]? = some (.cells z8 134 (0, 0)) := by
    have := heap_alloc_new ((w.alloc (.cells ss 134)).alloc (.cells ks 131)) (.cells z8 134)
    rw [World.size_alloc, World.size_alloc] at this
    rw [← hW3]; exact this
  have kb : Below w.heap.size w W3 := by rw [← hW3]; exact (((Below.refl _ _).alloc (Nat.le_refl _) _).alloc (by simp) _).alloc (by simp; omega) _
  have K1 := Hf.mk k1
  have K2 := Hf.mk k2
  have K3 := Hf.mk k3
  have KB := Hf.mk kb
  clear hr hb hs hss hks hz8e hz64e hwse h1 h2 h3 h4 hz8s hz64s hw1 hw2 k1 k2 k3 kb
  go_enter Try.func80, Try.ntmps80
  go_upto_region 3 with (first
    | (go_at_call 104; (with_reducible refine (HSPR.out _ KB.out).mono ?_); rintro e w1 ⟨rfl, hb⟩; have HB1 := Hf.mk hb; clear hb)
    | (with_reducible refine wpList_store_row rfl 131 _ _ rfl w1.heap.size ws rfl rfl 131 z64 (heap_alloc_new _ _) (size131.trans (by rw [S7.out])) (S6.out.trans S7.out.symm) S8.out ?_; generalize hw2 : World.setRow _ _ _ = w2; have hF := done_two K1.out K2.out K3.out KB.out HB1.out hw2; have HF := Hf.mk hF; clear hw2 hF)
    | (with_reducible refine wpList_load_row rfl 134 _ rfl w.heap.size rfl 134 ss (0, 0) _ HF.out.1 Try.underlying134 rfl (size134.trans (by rw [S1.out])) ?_)
    | (with_reducible refine wpList_store_row rfl 134 _ _ rfl w2.heap.size ss rfl rfl 134 z8 (heap_alloc_new _ _) (size134.trans (by rw [S1.out])) (S5.out.trans S1.out.symm) S2.out ?_; generalize hw4 : World.setRow _ _ _ = w4; have hF := done_four HF.out.1 HF.out.2.1 HF.out.2.2.1 HF.out.2.2.2.1 HF.out.2.2.2.2.1 HF.out.2.2.2.2.2 hw4; have HG := Hf.mk hF; clear hw4 hF HF))
  have HD : Hf (DAt w w4 w1.heap.size w2.heap.size s b (stF (Sha.rounds b s 0))) := ⟨by
    obtain ⟨m1, m2, m3, m4, m5, m6, m7, m8⟩ := HG.out
    rw [← HSS.out] at m1 m5
    rw [← HKS.out] at m2
    rw [← HWS.out] at m4
    rw [← HZ8.out] at m3
    exact ⟨m1, m2, m3, m4, m5, m6, m7, m8⟩⟩
  generalize w1.heap.size = gw at HD ⊢
  generalize w2.heap.size = gv at HD ⊢
  clear HG HSS HKS HWS HZ8 S1 S2 S3 S5 S6 S7 S8 K1 K2 K3 KB HB1 HSPR hz8 hz64 hW3
  go_wp2_with fail
  go_loopw [18] (fun i wr => ∃ k : Nat, k ≤ 64 ∧ i = .int .i64 k ∧ Hf (DAt w wr gw gv s b (stF (Sha.rounds b s k)))) (fun i _ => 64 - (intOf i).toNat)
  case atStart => exact ⟨0, by omega, rfl, HD⟩
  case round =>
    clear HD
    obtain ⟨k, hk, rfl, HD⟩ := hrel
    by_cases hgo : k < 64
    · have hgo2 : (k : Int) < 64 := by omega
      have HOK := Hf.mk (Sha.rounds_ok b HSO.out k)
      have HRN : Hf (Sha.rounds b s (k + 1) = Sha.round (Sha.rounds b s k) (kF k) (Sha.W b k)) := ⟨rfl⟩
      obtain ⟨st, hst⟩ : ∃ st, Sha.rounds b s k = st := ⟨_, rfl⟩
      rw [hst] at HOK HRN HD
      clear hst
      obtain ⟨a, bb, cc, dd, ee, ff, gg, hh⟩ := st
      have c0 := HD.out.fv.cell (i := 0) (by omega)
      have c1 := HD.out.fv.cell (i := 1) (by omega)
      have c2 := HD.out.fv.cell (i := 2) (by omega)
      have c3 := HD.out.fv.cell (i := 3) (by omega)
      have c4 := HD.out.fv.cell (i := 4) (by omega)
      have c5 := HD.out.fv.cell (i := 5) (by omega)
      have c6 := HD.out.fv.cell (i := 6) (by omega)
      have c7 := HD.out.fv.cell (i := 7) (by omega)
      simp only [stF, Sha.St.l, List.getD_cons_zero, List.getD_cons_succ] at c0 c1 c2 c3 c4 c5 c6 c7
      have x0 := HD.out.fk.cell (i := k) hgo
      have x1 := HD.out.fw.cell (i := k) hgo
      obtain ⟨kk, hkk⟩ : ∃ kk, kF k = kk := ⟨_, rfl⟩
      obtain ⟨wk, hwk⟩ : ∃ wk, Sha.W b k = wk := ⟨_, rfl⟩
      rw [hkk] at x0 HRN
      rw [hwk] at x1 HRN
      clear hkk hwk
      go_wp2_with fail
      go_quiet (fail)
      rename_i nq
      have hbq := below_drewN (Below.refl wr.heap.size wr) nq
      have HDd := Hf.mk (HD.out.below hbq)
      clear HD
      have d0 := cell_below hbq c0
      have d1 := cell_below hbq c1
      have d2 := cell_below hbq c2
      have d3 := cell_below hbq c3
      have d5 := cell_below hbq c5
      have d6 := cell_below hbq c6
      have d7 := cell_below hbq c7
      have y0 := cell_below hbq x0
      have y1 := cell_below hbq x1
      clear c0 c1 c2 c3 c4 c5 c6 c7 x0 x1
      generalize wr.drewN nq = wd at hbq HDd d0 d1 d2 d3 d5 d6 d7 y0 y1 ⊢
      clear hbq
      go_wp2_with fail
      go_quiet ((first
        | (go_at_call 105; (with_reducible show Calls _ _ #[_, Value.int .i64 6] _ _); exact Calls.quiet_of_same (turned_s _ ee rfl HOK.out.2.2.2.2.1 6 6 rfl (by omega) (by omega) _))
        | (go_at_call 105; (with_reducible show Calls _ _ #[_, Value.int .i64 11] _ _); exact Calls.quiet_of_same (turned_s _ ee rfl HOK.out.2.2.2.2.1 11 11 rfl (by omega) (by omega) _))
        | (go_at_call 105; (with_reducible show Calls _ _ #[_, Value.int .i64 25] _ _); exact Calls.quiet_of_same (turned_s _ ee rfl HOK.out.2.2.2.2.1 25 25 rfl (by omega) (by omega) _))))
      rename_i nq
      have hbq := below_drewN (Below.refl wd.heap.size wd) nq
      have HDe := Hf.mk (HDd.out.below hbq)
      clear HDd
      have c0 := cell_below hbq d0
      have c1 := cell_below hbq d1
      have c2 := cell_below hbq d2
      have c3 := cell_below hbq d3
      have c5 := cell_below hbq d5
      have c6 := cell_below hbq d6
      have c7 := cell_below hbq d7
      clear d0 d1 d2 d3 d5 d6 d7 y0 y1
      generalize wd.drewN nq = we at hbq HDe c0 c1 c2 c3 c5 c6 c7 ⊢
      clear hbq
      go_wp2_with fail
      go_quiet ((first
        | (go_at_call 105; (with_reducible show Calls _ _ #[_, Value.int .i64 2] _ _); exact Calls.quiet_of_same (turned_s _ a rfl HOK.out.1 2 2 rfl (by omega) (by omega) _))
        | (go_at_call 105; (with_reducible show Calls _ _ #[_, Value.int .i64 13] _ _); exact Calls.quiet_of_same (turned_s _ a rfl HOK.out.1 13 13 rfl (by omega) (by omega) _))
        | (go_at_call 105; (with_reducible show Calls _ _ #[_, Value.int .i64 22] _ _); exact Calls.quiet_of_same (turned_s _ a rfl HOK.out.1 22 22 rfl (by omega) (by omega) _))))
      rename_i nq
      have hbq := below_drewN (Below.refl we.heap.size we) nq
      have HDf := Hf.mk (HDe.out.below hbq)
      clear HDe
      have d1 := cell_below hbq c1
      have d2 := cell_below hbq c2
      have d3 := cell_below hbq c3
      have d5 := cell_below hbq c5
      have d6 := cell_below hbq c6
      clear c0 c1 c2 c3 c5 c6 c7
      generalize we.drewN nq = wf at hbq HDf d1 d2 d3 d5 d6 ⊢
      clear hbq
      have f := HDf.out.fv.frozen
      have f0 := f 0
      have f1 := f 1
      have f2 := f 2
      have f3 := f 3
      have f4 := f 4
      have f5 := f 5
      have f6 := f 6
      have f7 := f 7
      have d0 := HDf.out.fv.cell (i := 0) (by omega)
      have d4 := HDf.out.fv.cell (i := 4) (by omega)
      have d7 := HDf.out.fv.cell (i := 7) (by omega)
      simp only [stF, Sha.St.l, List.getD_cons_zero, List.getD_cons_succ] at d0 d4 d7
      clear f
      go_wp2_with fail
      go_roundw
      case rel =>
        refine ⟨k + 1, by omega, by go_num, ⟨?_⟩⟩
        rw [up_val ee ff gg hh kk wk HOK.out.2.2.2.2.1 HOK.out.2.2.2.2.2.1 HOK.out.2.2.2.2.2.2.1, down_val a bb cc HOK.out.1 HOK.out.2.1 HOK.out.2.2.1, new4 a bb cc, new0 a bb cc dd]
        obtain ⟨X0, hX0⟩ : ∃ x, (Sha.one ⟨a, bb, cc, dd, ee, ff, gg, hh⟩ kk wk + Sha.two ⟨a, bb, cc, dd, ee, ff, gg, hh⟩) % 4294967296 = x := ⟨_, rfl⟩
        obtain ⟨X4, hX4⟩ : ∃ x, (dd + Sha.one ⟨a, bb, cc, dd, ee, ff, gg, hh⟩ kk wk) % 4294967296 = x := ⟨_, rfl⟩
        rw [hX0, hX4, HRN.out]
        exact ((((((((HDf.out.set (j := 7) (by omega) gg).set (j := 6) (by omega) ff).set (j := 5) (by omega) ee).set (j := 4) (by omega) X4).set (j := 3) (by omega) cc).set (j := 2) (by omega) bb).set (j := 1) (by omega) a).set (j := 0) (by omega) X0).congr fun i hi => stF_round a bb cc dd ee ff gg hh kk wk X0 X4 hX0 hX4 _ i hi
      case measure => simp [intOf]; omega
    · have hk64 : k = 64 := by omega
      obtain ⟨rr, hrr⟩ : ∃ rr, Sha.rounds b s k = rr := ⟨_, rfl⟩
      have HBE := Hf.mk (block_eq s b k hk64 rr hrr)
      have HBL2 : Hf (∀ i, i < 8 → (stF rr i + stF s i) % 4294967296 = stF (Sha.block s b) i) := ⟨fun i hi => by rw [HBE.out]; exact add_get s rr i hi⟩
      rw [hrr] at HD
      have HD0 : Hf (DAt w wr gw gv s b (fun i => if i < 0 then (stF rr i + stF s i) % 4294967296 else stF rr i)) := ⟨HD.out.congr fun i _ => by simp⟩
      obtain ⟨r, hr⟩ : ∃ r, stF rr = r := ⟨_, rfl⟩
      rw [hr] at HD0 HBL2
      have hk64' : (k : Int) = 64 := by omega
      rw [hk64']
      clear hr HD hrr HBE hk64 hk64' hgo hk
      go_wp2_with fail
      go_loopw [105] (fun i wx => ∃ k : Nat, k ≤ 8 ∧ i = .int .i64 k ∧ Hf (DAt w wx gw gv s b (fun i => if i < k then (r i + stF s i) % 4294967296 else r i))) (fun i _ => 8 - (intOf i).toNat)
      case atStart => exact ⟨0, by omega, rfl, HD0⟩
      case round =>
        clear HD0
        obtain ⟨k, hk, rfl, HD⟩ := hrel
        by_cases hgo : k < 8
        · have hgo2 : (k : Int) < 8 := by omega
          have c0 := HD.out.fv.cell (i := k) hgo
          rw [if_neg (by omega)] at c0
          have c1 := HD.out.fs.cell (i := k) hgo
          have f0 := HD.out.fv.frozen k
          obtain ⟨rk, hrk⟩ : ∃ x, r k = x := ⟨_, rfl⟩
          obtain ⟨sk, hsk⟩ : ∃ x, stF s k = x := ⟨_, rfl⟩
          rw [hrk] at c0
          rw [hsk] at c1
          have HRK := Hf.mk hrk
          have HSK := Hf.mk hsk
          clear hrk hsk
          go_wp2_with fail
          go_still_tail 8, (by kernel_rfl)
          change wpList _ _ _ _ _ wr.drew
          go_wp2_with fail
          go_roundw
          case rel =>
            refine ⟨k + 1, by omega, by go_num, ⟨?_⟩⟩
            rw [mod_nat]
            refine ((HD.out.set hgo _).below (Below.refl _ _).drew).congr fun i hi => ?_
            by_cases e1 : i = k
            · subst e1; rw [if_pos rfl, if_pos (by omega), HRK.out, HSK.out]
            · rw [if_neg e1]
              by_cases e2 : i < k
              · rw [if_pos e2, if_pos (by omega)]
              · rw [if_neg e2, if_neg (by omega)]
          case measure => simp [intOf]; omega
        · obtain rfl : k = 8 := by omega
          have hv : ∀ i, i < 8 → (if i < 8 then (r i + stF s i) % 4294967296 else r i) = stF (Sha.block s b) i := fun i hi => by rw [if_pos hi]; exact HBL2.out i hi
          have hd := HD.out.congr hv
          have h1 := hd.fv
          have h2 := hd.fr
          have h3 := arrU_size 8 (stF (Sha.block s b))
          have h4 := arrU_one 8 (stF (Sha.block s b))
          have h5 := arrU_size 8 (fun _ => 0)
          unfold RowU at h1 h2
          have HB9 := Hf.mk hd.hb
          obtain ⟨cs, hcs⟩ : ∃ cs, arrU 8 (stF (Sha.block s b)) = cs := ⟨_, rfl⟩
          obtain ⟨zs, hzs⟩ : ∃ cs, arrU 8 (fun _ => 0) = cs := ⟨_, rfl⟩
          rw [hcs] at h1 h3 h4
          rw [hzs] at h2 h5
          have H1 := Hf.mk h1
          have H2 := Hf.mk h2
          have H3 := Hf.mk h3
          have H4 := Hf.mk h4
          have H5 := Hf.mk h5
          have HC := Hf.mk hcs
          clear hv hd h1 h2 h3 h4 h5 hcs hzs HBL2
          rw [show ((8 : Nat) : Int) = 8 from rfl]
          go_wp2_with (first
            | (with_reducible refine wpList_load_row rfl 134 _ rfl gv rfl 134 cs (0, 0) _ H1.out Try.underlying134 rfl (size134.trans (by rw [H3.out])) ?_)
            | (with_reducible refine wpList_store_row rfl 134 _ _ rfl (w.heap.size + 2) cs rfl rfl 134 zs H2.out (size134.trans (by rw [H3.out])) (H5.out.trans H3.out.symm) H4.out ?_))
          refine bodyPost_ret (results_cell_row rfl _ _ (w.heap.size + 2) 134 cs (0, 0) _ rfl (setRow_heap _ _ zs cs 134 (0, 0) H2.out) Try.underlying134 rfl (size134.trans (by rw [H3.out]))) rfl ⟨by rw [HC.out], ?_⟩
          exact Below.setRow' HB9.out (by omega) _
end Go.Proofs.Ytaaepadhapfkoaa
