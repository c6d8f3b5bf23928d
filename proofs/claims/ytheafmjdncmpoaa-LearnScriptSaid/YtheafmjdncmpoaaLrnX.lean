/-
  Learn: Hear, where a node's ballot is noted.
-/
import Derived.Test.YtheafmjdncmpoaaLrnW
import Derived.Deep.RegionWith
namespace Go.Proofs.Ytheafmjdncmpoaa
set_option linter.unusedSimpArgs false
set_option linter.unusedVariables false
open Go.RowKit Go.Proofs.YtheafmjdncmpoaaW.PrintWords Go.Proofs.YtheafmjdncmpoaaW.PrintMore

theorem C_mkB {w : World} {ad : Addr} {l : List Int} (hl : l.length ≤ 9223372036854775807) (h : ∀ i, i < l.length → w.cell? (ad.add i) = some (.int .u8 (l.getD i 0))) : Kd.C kB w (some ad) l.length l := by
  refine ⟨rfl, hl, fun _ => ⟨ad, rfl, fun j p hp => ⟨[.int .u8 p], rfl, rfl, fun i u hu => ?_⟩⟩⟩
  have hi : i = 0 := by
    have := (List.getElem?_eq_some_iff.1 hu).1
    simp at this; exact this
  subst hi
  simp only [List.getElem?_cons_zero, Option.some.injEq] at hu
  subst hu
  have hj := (List.getElem?_eq_some_iff.1 hp).1
  have := h j hj
  rw [List.getD_eq_getElem?_getD, hp] at this
  exact (show ad.add (j * 1 + 0) = ad.add j by rw [Nat.mul_one, Nat.add_zero]) ▸ this
/-- bytes stay where another kind of cell is written -/
theorem BytesAt.set {w : World} {A : Option Addr} {c : Nat} {l : List Int} (h : BytesAt w A c l) (p : Addr) (hp : ∀ z, w.cell? p ≠ some (.int .u8 z)) (v : Value) : BytesAt (w.setCell p v) A c l := by
  refine ⟨?_, h.2⟩
  rcases Nat.eq_zero_or_pos l.length with e | e
  · have hC := h.1
    exact ⟨rfl, hC.2.1, fun h => absurd h (by omega)⟩
  · obtain ⟨ad, rfl, _⟩ := byte_get h.1 0 e
    refine C_mkB h.1.2.1 fun i hi => ?_
    obtain ⟨ad', e', hc⟩ := byte_get h.1 i hi
    obtain rfl := Option.some.inj e'
    rw [World.cell?_setCell_other _ _ _ _ (fun e => hp (l.getD i 0) (by rw [e]; exact hc))]
    exact hc
/-- the world behind the note -/
def put3 (u : World) (b i : Nat) (n d : Int) (v : Value) : World := ((u.setCell ⟨b, i * 3, none⟩ (.int .i64 n)).setCell ⟨b, i * 3 + 1, none⟩ (.int .i64 d)).setCell ⟨b, i * 3 + 2, none⟩ v
theorem put3_other (u : World) (b i : Nat) (n d : Int) (v : Value) (p : Addr) (hp : p.block ≠ b) : (put3 u b i n d v).cell? p = u.cell? p := by
  unfold put3
  rw [World.cell?_setCell_other _ ⟨b, i * 3 + 2, none⟩ p _ (fun e => hp (by rw [← e])), World.cell?_setCell_other _ ⟨b, i * 3 + 1, none⟩ p _ (fun e => hp (by rw [← e])), World.cell?_setCell_other _ ⟨b, i * 3, none⟩ p _ (fun e => hp (by rw [← e]))]
theorem put3_bytes {u : World} {b i : Nat} {n d : Int} {v : Value} {A : Option Addr} {c : Nat} {x : List Int} (h : BytesAt u A c x) (v0 v1 v2 : Value) (t3 : u.cell? ⟨b, i * 3, none⟩ = some v0) (t4 : u.cell? ⟨b, i * 3 + 1, none⟩ = some v1) (t5 : u.cell? ⟨b, i * 3 + 2, none⟩ = some v2)
    (k0 : ∀ z, v0 ≠ .int .u8 z) (k1 : ∀ z, v1 ≠ .int .u8 z) (k2 : ∀ z, v2 ≠ .int .u8 z) : BytesAt (put3 u b i n d v) A c x := by
  unfold put3
  have s1 := h.set ⟨b, i * 3, none⟩ (fun z e => by rw [t3] at e; exact k0 z (Option.some.inj e)) (.int .i64 n)
  have e1 : (u.setCell ⟨b, i * 3, none⟩ (.int .i64 n)).cell? ⟨b, i * 3 + 1, none⟩ = some v1 := by rw [World.cell?_setCell_other _ _ _ _ (by simp)]; exact t4
  have s2 := s1.set ⟨b, i * 3 + 1, none⟩ (fun z e => by rw [e1] at e; exact k1 z (Option.some.inj e)) (.int .i64 d)
  have e2 : ((u.setCell ⟨b, i * 3, none⟩ (.int .i64 n)).setCell ⟨b, i * 3 + 1, none⟩ (.int .i64 d)).cell? ⟨b, i * 3 + 2, none⟩ = some v2 := by rw [World.cell?_setCell_other _ _ _ _ (by simp), World.cell?_setCell_other _ _ _ _ (by simp)]; exact t5
  exact s2.set ⟨b, i * 3 + 2, none⟩ (fun z e => by rw [e2] at e; exact k2 z (Option.some.inj e)) v
theorem put3_moved {w u : World} {F : Nat → Prop} {b i : Nat} {n d : Int} {v : Value} (h : Moved F w u) (hF : F b) : Moved F w (put3 u b i n d v) := ((h.set _ hF _).set _ hF _).set _ hF _
theorem put3_at {u : World} {base : Nat} {F : Nat → Prop} {b i : Nat} {L : Lr} {n d : Int} {v : Value} {x : List Int} (h : LAt u base F b L) (hi : i ≤ 64) (hv : kB.R 5 u base F v x) : LAt (put3 u b i n d v) base F b (L.set i ⟨n, d, x⟩) := h.setHd (hd := ⟨n, d, x⟩) hi hv
theorem hear_store {w W u : World} {base bs : Nat} {F : Nat → Prop} {b i : Nat} {L : Lr} {A : Option Addr} {c : Nat} {x : List Int} {n d ln ld : Int} (H : HCtx w W base F b i L A c x n d ln ld) (hbase : base ≤ w.heap.size) (hb : Below W.heap.size W u)
    {v : Value} (hr : RowB u bs v x) (hbs : w.heap.size ≤ bs) (hF : F b ∧ b < w.heap.size) {W3 : World} (hW : put3 u b i n d v = W3) :
    Aside0 (Moved F w W3) ∧ Aside0 (LAt W3 base (fun k => F k ∨ w.heap.size ≤ k) b (L.set i ⟨n, d, x⟩)) ∧ Aside0 (W3.cell? ⟨w.heap.size, 0, none⟩ = some (.int .i64 n)) ∧ Aside0 (W3.cell? ⟨w.heap.size, 1, none⟩ = some (.int .i64 d)) ∧
    Aside0 (W3.cell? ⟨w.heap.size + 1, 0, none⟩ = some (.slice A x.length c)) ∧ Aside0 (Given W3 A c x) := by
  obtain ⟨t0, t1, t2, t3, t4, _, tl, tg⟩ := H.at u hb
  have hi : i ≤ 64 := by have := H.h2; have := H.hn; omega
  obtain ⟨A3, c3, ⟨_, _, t5⟩, _⟩ := tl.heard hi
  have hwu := below_step H.wB hb
  have hv : kB.R 5 u base (fun k => F k ∨ w.heap.size ≤ k) v x := Kd.R_lower (Kd.R_mono (Kd.R_bound hr.1) (fun k hk => .inr (Nat.le_trans hbs hk.2.1))) (Nat.le_trans hbase hbs)
  have m := put3_moved (i := i) (n := n) (d := d) (v := v) (Moved.of_below (F := F) hwu) hF.1
  have a := put3_at (n := n) (d := d) (tl.mono (F' := fun k => F k ∨ w.heap.size ≤ k) fun k hk => .inl hk) hi hv
  have o0 := put3_other u b i n d v ⟨w.heap.size, 0, none⟩ (by have := hF.2; show w.heap.size ≠ b; omega)
  have o1 := put3_other u b i n d v ⟨w.heap.size, 1, none⟩ (by have := hF.2; show w.heap.size ≠ b; omega)
  have o2 := put3_other u b i n d v ⟨w.heap.size + 1, 0, none⟩ (by have := hF.2; show w.heap.size + 1 ≠ b; omega)
  have g := put3_bytes (n := n) (d := d) (v := v) tg.1 _ _ _ t3 t4 t5 (fun z e => by cases e) (fun z e => by cases e) (fun z e => by cases e)
  rw [hW] at m a o0 o1 o2 g
  exact ⟨⟨m⟩, ⟨a⟩, ⟨o0.trans t0⟩, ⟨o1.trans t1⟩, ⟨o2.trans t2⟩, ⟨g, tg.2⟩⟩
theorem Moved.more {F : Nat → Prop} {w w1 w2 : World} (h : Moved F w w1) (k : Moved (fun i => F i ∨ w.heap.size ≤ i) w1 w2) : Moved F w w2 :=
  ⟨k.os.trans h.os, k.tape.trans h.tape, k.output.trans h.output, Nat.le_trans h.size k.size, fun i hi hF => (k.block i (Nat.lt_of_lt_of_le hi h.size) (by rintro (e | e); exact hF e; omega)).trans (h.block i hi hF)⟩
theorem maj_of {n : Nat} (h1 : 1 ≤ n) (h2 : n ≤ 64) (u : World) : Calls Try.prog 35 #[.int .i64 n] u fun e w' => e = .returned (.int .i64 ((n / 2 + 1 : Nat) : Int)) ∧ u = w' := by
  refine (majority_any n u).mono fun e w' ⟨e1, e2⟩ => ⟨?_, e2.symm⟩
  rw [e1, show okNode (n : Int) = true by simp [okNode]; omega, if_pos rfl]
  congr 1
def goI (L : Lr) (i : Nat) (n d : Int) (x : List Int) : (Bool × Int) × Lr :=
  if countN (goodI (L.set i ⟨n, d, x⟩) n d) L.nodes < L.nodes / 2 + 1 then ((false, 0), L.set i ⟨n, d, x⟩)
  else (((decideI (L.set i ⟨n, d, x⟩) x).1, 0), (decideI (L.set i ⟨n, d, x⟩) x).2)
set_option maxHeartbeats 6400000 in
set_option maxRecDepth 100000 in
theorem hear_go {w W : World} {base : Nat} {F : Nat → Prop} {b i : Nat} {L : Lr} {A : Option Addr} {c : Nat} {x : List Int} {n d ln ld : Int} (H : HCtx w W base F b i L A c x n d ln ld) (hbase : base ≤ w.heap.size)
    (hs : countN (badI L n d x) L.nodes = 0) (hless : lessB ln ld n d = true) :
    Calls Try.prog 51 #[.pointer (some ⟨b, 0, none⟩), .int .i64 i, .agg #[.int .i64 n, .int .i64 d], .slice A x.length c] w (LAns w base F b (goI L i n d x).2 (ansV (goI L i n d x).1)) := by
  have HH := Aside0.mk H
  have HW : Aside0 ((w.alloc (.cells #[.int .i64 n, .int .i64 d] 23)).alloc (.cells #[.slice A x.length c] 69) = W) := ⟨H.hW⟩
  have HB : Aside0 (Below W.heap.size W ((w.alloc (.cells #[.int .i64 n, .int .i64 d] 23)).alloc (.cells #[.slice A x.length c] 69))) := ⟨by rw [HW.out]; exact Below.refl _ _⟩
  have HN := Aside0.mk (fun u (hb : Below W.heap.size W u) => by
    have := none80_at b L.nodes u (H.at u hb).2.2.2.2.2.1
    rw [show ((L.nodes : Int) == 0) = false by have := H.h1; have := H.h2; simp; omega] at this
    exact this)
  have HK := Aside0.mk (fun u => check_any n d u)
  rw [H.hc] at HK
  have HALL := Aside0.mk (fun u (hb : Below W.heap.size W u) => all_any b L.nodes u H.hn (H.at u hb).2.2.2.2.2.1)
  have HBC := Aside0.mk (fun u (hb : Below W.heap.size W u) => bad_count (H.at u hb).2.2.2.2.2.2.1 H.hn w.heap.size (w.heap.size + 1) n d A c x (H.at u hb).2.2.2.2.2.2.2.1 (H.at u hb).1 (H.at u hb).2.1 (H.at u hb).2.2.1)
  have HL := Aside0.mk (fun u => less_any ln ld n d u)
  have HCL := Aside0.mk (fun u (hb : Below W.heap.size W u) => Clone_any (H.at u hb).2.2.2.2.2.2.2 (by have := H.hx; omega))
  have g1 : (1 : Int) ≤ (i : Int) := by have := H.h1; omega
  have g2 : (i : Int) ≤ (L.nodes : Int) := by have := H.h2; omega
  have g3 : (i : Int) < 65 := by have := H.h2; have := H.hn; omega
  have g4 : (x.length : Int) ≤ 4000 := by have := H.hx; omega
  have g5 : (0 : Int) ≤ (i : Int) := by omega
  have hbw : b < w.heap.size := by
    obtain ⟨_, _, q, _⟩ := H.h.tail
    exact World.block_lt_of_cell? w _ q
  have HWB := Aside0.mk H.wB
  have q195 : w.cell? ⟨b, 195, none⟩ = some (.int .i64 L.nodes) := by obtain ⟨_, _, q, _⟩ := H.h.tail; exact q
  have HND := Aside0.mk H.hn
  clear H
  rw [hs] at HBC
  rw [hless] at HL
  clear hs hless
  go_enter Try.func51, Try.ntmps51
  go_wp2_with (first
    | (go_at_call 80; (with_reducible refine (HN.out _ HB.out).mono ?_); rintro e w1 ⟨rfl, hw⟩; have hw := hw.symm; subst hw)
    | (go_at_call 22; (with_reducible refine (HK.out _).mono ?_); rintro e u ⟨rfl, hb⟩; have HB2 := Aside0.mk (below_step HB.out hb); have p2 := (HH.out.at _ HB2.out).2.2.1; clear hb)
    | (go_at_call 82; (with_reducible refine (HALL.out _ HB2.out).mono ?_); rintro e u2 ⟨rfl, hb⟩; have HB3 := Aside0.mk (below_step HB2.out hb); clear hb)
    | (go_at_call 81; (with_reducible refine (HBC.out _ HB3.out).mono ?_); rintro e u3 ⟨rfl, hb⟩; have HB4 := Aside0.mk (below_step HB3.out hb); clear hb))
  have HS7 : Aside0 (∀ w' u, Below W.heap.size W w' → Below w'.heap.size w' u → (fun w' => Below W.heap.size W w' ∧ w'.cell? ⟨w.heap.size, 0, none⟩ = some (.int .i64 n) ∧ w'.cell? ⟨w.heap.size, 1, none⟩ = some (.int .i64 d) ∧ w'.cell? ⟨b, i * 3, none⟩ = some (.int .i64 ln) ∧ w'.cell? ⟨b, i * 3 + 1, none⟩ = some (.int .i64 ld)) u) := ⟨fun w' u h hb => ⟨below_step h hb, (HH.out.at _ (below_step h hb)).1, (HH.out.at _ (below_step h hb)).2.1, (HH.out.at _ (below_step h hb)).2.2.2.1, (HH.out.at _ (below_step h hb)).2.2.2.2.1⟩⟩
  go_region_held3 (fun w' => Below W.heap.size W w' ∧ w'.cell? ⟨w.heap.size, 0, none⟩ = some (.int .i64 n) ∧ w'.cell? ⟨w.heap.size, 1, none⟩ = some (.int .i64 d) ∧ w'.cell? ⟨b, i * 3, none⟩ = some (.int .i64 ln) ∧ w'.cell? ⟨b, i * 3 + 1, none⟩ = some (.int .i64 ld))
    (first | exact HS7.out _ _ HB4.out (Below.refl _ _).drew | assumption)
    (first | (go_at_call 23; refine (HL.out _).mono ?_; rintro e u ⟨rfl, hb⟩; have hk := HS7.out _ _ (And.left ‹(fun w' => Below W.heap.size W w' ∧ w'.cell? ⟨w.heap.size, 0, none⟩ = some (.int .i64 n) ∧ w'.cell? ⟨w.heap.size, 1, none⟩ = some (.int .i64 d) ∧ w'.cell? ⟨b, i * 3, none⟩ = some (.int .i64 ln) ∧ w'.cell? ⟨b, i * 3 + 1, none⟩ = some (.int .i64 ld)) _›) hb; clear hb))
  have HB5 := Aside0.mk hk.1
  clear hk HS7 HB4 HB3 HB2 HB
  obtain ⟨p0, p1, p2, r0, r1, r2, _, _⟩ := HH.out.at _ HB5.out
  have HFB : Aside0 (F b ∧ b < w.heap.size) := ⟨by obtain ⟨cs, vs, vd, h1, _⟩ := HH.out.h; exact h1, hbw⟩
  go_upto_region 9 with fail
  go_cut [] from 49 to 57 (fun wx => Aside0 (Moved F w wx) ∧ Aside0 (LAt wx base (fun k => F k ∨ w.heap.size ≤ k) b (L.set i ⟨n, d, x⟩)) ∧ Aside0 (wx.cell? ⟨w.heap.size, 0, none⟩ = some (.int .i64 n)) ∧ Aside0 (wx.cell? ⟨w.heap.size, 1, none⟩ = some (.int .i64 d)) ∧ Aside0 (wx.cell? ⟨w.heap.size + 1, 0, none⟩ = some (.slice A x.length c)) ∧ Aside0 (Given wx A c x))
  case first =>
    have HB6 := Aside0.mk (below_step HB5.out (Below.refl _ _).drew)
    go_region_with (go_at_call 86; (with_reducible refine (HCL.out _ HB6.out).mono ?_); rintro e u9 ⟨A2, c2, rfl, hb, hr⟩; have HB7 := Aside0.mk (below_step HB6.out hb); have HR := Aside0.mk hr; clear hr hb; obtain ⟨t0, t1, t2, t3, t4, _, tl, _⟩ := HH.out.at _ HB7.out; obtain ⟨A3, c3, ⟨_, _, t5⟩, _⟩ := tl.heard (i := i) (by omega); have f0 := tl.frozen (i * 3); have f1 := tl.frozen (i * 3 + 1); have f2 := tl.frozen (i * 3 + 2); simp only at t5; clear tl)
    all_goals
      clear t0 t1 t2 t3 t4 t5 f0 f1 f2 p0 p1 p2 r0 r1 r2
      go_wp2_with fail
      go_meet
      case rel => exact hear_store HH.out hbase HB7.out HR.out (Nat.le_trans HWB.out.size HB6.out.size) HFB.out rfl
  case rest =>
    clear p0 p1 p2 r0 r1 r2 q195
    obtain ⟨HM, HLA, HC0, HC1, HC2, HG⟩ := hcut
    have hn1 : 1 ≤ L.nodes := by have := HH.out.h1; have := HH.out.h2; omega
    have q195 : wc.cell? ⟨b, 195, none⟩ = some (.int .i64 L.nodes) := by obtain ⟨_, _, q, _⟩ := HLA.out.tail; exact q
    have HALL2 := Aside0.mk (fun u (hb : Below wc.heap.size wc u) => all_any b L.nodes u HND.out (pw_cell_below hb q195))
    have HGC := Aside0.mk (fun u (hb : Below wc.heap.size wc u) => good_count (HLA.out.below hb) HND.out w.heap.size n d (pw_cell_below hb HC0.out) (pw_cell_below hb HC1.out))
    have HMJ := Aside0.mk (fun u => maj_of hn1 HND.out u)
    have HDC : Aside0 (∀ u, Below wc.heap.size wc u → Calls Try.prog 88 #[.pointer (some ⟨b, 0, none⟩), .slice A x.length c] u (LAns u base (fun k => F k ∨ w.heap.size ≤ k) b (decideI (L.set i ⟨n, d, x⟩) x).2 (.bool (decideI (L.set i ⟨n, d, x⟩) x).1))) :=
      ⟨fun u hb => Decide_any (HLA.out.below hb) (Nat.le_trans hbase (Nat.le_trans HM.out.size hb.size)) (HG.out.below hb) (by have := HH.out.hx; omega)⟩
    have HC2' := HC2
    have HGI : Aside0 (goI L i n d x = if countN (goodI (L.set i ⟨n, d, x⟩) n d) L.nodes < L.nodes / 2 + 1 then ((false, 0), L.set i ⟨n, d, x⟩) else (((decideI (L.set i ⟨n, d, x⟩) x).1, 0), (decideI (L.set i ⟨n, d, x⟩) x).2)) := ⟨rfl⟩
    obtain ⟨L1, hL1⟩ : ∃ L1, L.set i ⟨n, d, x⟩ = L1 := ⟨_, rfl⟩
    have hnd : (L.set i ⟨n, d, x⟩).nodes = L.nodes := rfl
    rw [hnd] at HGC
    rw [hL1] at HGC HDC HLA HGI
    clear hL1 hnd
    obtain ⟨cg, hcg⟩ : ∃ cg, countN (goodI L1 n d) L.nodes = cg := ⟨_, rfl⟩
    have hcl := countN_le (goodI L1 n d) L.nodes
    rw [hcg] at HGC hcl HGI
    clear hcg
    have hnd64 := HND.out
    obtain ⟨nodes, hnodes⟩ : ∃ m, L.nodes = m := ⟨_, rfl⟩
    rw [hnodes] at HGC HALL2 HMJ q195 hcl hnd64 hn1 HGI
    clear hnodes
    obtain ⟨mj, hmj⟩ : ∃ mj, nodes / 2 + 1 = mj := ⟨_, rfl⟩
    rw [hmj] at HMJ HGI
    clear hmj
    obtain ⟨⟨r, L2⟩, hr⟩ : ∃ q, decideI L1 x = q := ⟨_, rfl⟩
    rw [hr] at HDC HGI
    clear hr
    have HS : Aside0 (∀ w' u, Below wc.heap.size wc w' → Below w'.heap.size w' u → (fun w' => Below wc.heap.size wc w' ∧ w'.cell? ⟨b, 195, none⟩ = some (.int .i64 nodes)) u) := ⟨fun w' u h hb => ⟨below_step h hb, pw_cell_below (below_step h hb) q195⟩⟩
    go_wp2_with fail
    go_region_held3 (fun w' => Below wc.heap.size wc w' ∧ w'.cell? ⟨b, 195, none⟩ = some (.int .i64 nodes))
      (first | exact HS.out _ _ (Below.refl _ _) (Below.refl _ _).drew | assumption)
      (first | (go_at_call 82; refine (HALL2.out _ (And.left ‹(fun w' => Below wc.heap.size wc w' ∧ w'.cell? ⟨b, 195, none⟩ = some (.int .i64 nodes)) _›)).mono ?_; rintro e u ⟨rfl, hb⟩; have hk := HS.out _ _ (And.left ‹(fun w' => Below wc.heap.size wc w' ∧ w'.cell? ⟨b, 195, none⟩ = some (.int .i64 nodes)) _›) hb; clear hb) | (go_at_call 81; refine (HGC.out _ (And.left ‹(fun w' => Below wc.heap.size wc w' ∧ w'.cell? ⟨b, 195, none⟩ = some (.int .i64 nodes)) _›)).mono ?_; rintro e u ⟨rfl, hb⟩; have hk := HS.out _ _ (And.left ‹(fun w' => Below wc.heap.size wc w' ∧ w'.cell? ⟨b, 195, none⟩ = some (.int .i64 nodes)) _›) hb; clear hb) | (go_at_call 35; refine (HMJ.out _).mono ?_; rintro e u ⟨rfl, rfl⟩))
    all_goals
      have HB8 := Aside0.mk (And.left ‹(fun w' => Below wc.heap.size wc w' ∧ w'.cell? ⟨b, 195, none⟩ = some (.int .i64 nodes)) _›)
      clear HALL2 HGC HMJ HS q195
      have p9 := pw_cell_below HB8.out HC2'.out
      by_cases hcm : cg < mj
      · have hcI : (cg : Int) < (mj : Int) := by omega
        go_wp2
        refine bodyPost_ret (v := ansV (false, 0)) (by simp [results, Try.results51, go_sem, ansV]) rfl ?_
        rw [HGI.out, if_pos hcm]
        exact ⟨rfl, HM.out.trans (Moved.of_below HB8.out), HLA.out.below HB8.out⟩
      · have hcI : (mj : Int) ≤ (cg : Int) := by omega
        go_wp2_with (go_at_call 88; (with_reducible refine (HDC.out _ HB8.out).mono ?_); rintro e u2 ⟨rfl, hm, hl⟩; have HM2 := Aside0.mk hm; have HL2 := Aside0.mk hl; clear hm hl)
        refine bodyPost_ret (v := ansV (r, 0)) (by simp [results, Try.results51, go_sem, ansV]) rfl ?_
        rw [HGI.out, if_neg hcm]
        refine ⟨rfl, (HM.out.trans (Moved.of_below HB8.out)).more HM2.out, HL2.out.mono fun k hk => ?_⟩
        rcases hk with (hk | hk) | hk
        · exact .inl hk
        · exact .inr hk
        · exact .inr (Nat.le_trans (Nat.le_trans HM.out.size HB8.out.size) hk)
theorem Hear_any {w : World} {base : Nat} {F : Nat → Prop} {b : Nat} {L : Lr} {A : Option Addr} {c : Nat} {x : List Int} {k n d : Int} (h : LAt w base F b L) (hbase : base ≤ w.heap.size) (hn : 1 ≤ L.nodes ∧ L.nodes ≤ 64) (hg : Given w A c x) :
    Calls Try.prog 51 #[.pointer (some ⟨b, 0, none⟩), .int .i64 k, .agg #[.int .i64 n, .int .i64 d], .slice A x.length c] w (LAns w base F b (hearI L k n d x).2 (ansV (hearI L k n d x).1)) := by
  have keep : ∀ u, Below w.heap.size w u → LAt u base (fun k => F k ∨ w.heap.size ≤ k) b L := fun u hb => (h.below hb).mono fun k hk => .inl hk
  by_cases hbad : k < 1 ∨ (L.nodes : Int) < k ∨ checkB n d = false ∨ 4000 < x.length
  · have e : hearI L k n d x = ((false, 2), L) := by unfold hearI; rw [if_pos hbad]
    rw [e]
    exact (hear_arg h hn hg hbad).mono fun e u ⟨h1, h2⟩ => ⟨h1, Moved.of_below h2, keep u h2⟩
  · have hk1 : 1 ≤ k := by omega
    have hk2 : k ≤ L.nodes := by omega
    have hx : x.length ≤ 4000 := by omega
    have hc : checkB n d = true := by
      cases hc : checkB n d with
      | true => rfl
      | false => exact absurd (.inr (.inr (.inl hc))) hbad
    obtain ⟨i, rfl⟩ := Int.eq_ofNat_of_zero_le (show 0 ≤ k by omega)
    have H : HCtx w (hbox w n d A x.length c) base F b i L A c x n d (L.of i).n (L.of i).d := ⟨rfl, h, hg, hn.2, by omega, by omega, hx, hc, rfl, rfl⟩
    by_cases h1 : 0 < countN (badI L n d x) L.nodes
    · have e : hearI L i n d x = ((false, 12), L) := by unfold hearI; rw [if_neg hbad, if_pos h1]
      rw [e]
      refine (hear_stop H (.inl h1)).mono fun e u ⟨h2, h3⟩ => ⟨?_, Moved.of_below h3, keep u h3⟩
      rw [h2, if_pos h1]
    · by_cases h2 : lessB (L.of i).n (L.of i).d n d = false
      · have e : hearI L i n d x = ((false, 0), L) := by unfold hearI; rw [if_neg hbad, if_neg h1, if_pos (by rw [Int.toNat_natCast]; exact h2)]
        rw [e]
        refine (hear_stop H (.inr h2)).mono fun e u ⟨h4, h3⟩ => ⟨?_, Moved.of_below h3, keep u h3⟩
        rw [h4, if_neg h1]
      · have e : hearI L i n d x = goI L i n d x := by
          unfold hearI
          rw [if_neg hbad, if_neg h1, if_neg (by rw [Int.toNat_natCast]; exact h2), Int.toNat_natCast]
          rfl
        rw [e]
        exact hear_go H hbase (by omega) (by simpa using h2)
end Go.Proofs.Ytheafmjdncmpoaa
