/-
  Quorum: met (function 47): a quorum of the first nodes, met by some of them themselves.
-/
import Derived.Test.YtheafmjdncmpoaaQuoM
import Derived.Deep.RegionWith
namespace Go.Proofs.Ytheafmjdncmpoaa
set_option linter.unusedSimpArgs false
set_option linter.unusedVariables false
open Go.RowKit Go.Proofs.YtheafmjdncmpoaaW.PrintWords Go.Proofs.YtheafmjdncmpoaaW.PrintMore

theorem QAt.mono {w : World} {base : Nat} {F F' : Nat → Prop} {b : Nat} {S : List Qs} {need : Int} (h : QAt w base F b S need) (hF : ∀ k, F k → F' k) : QAt w base F' b S need := by
  obtain ⟨v, h1, h2, h3, h4⟩ := h
  exact ⟨v, hF _ h1, h2, h3, Kd.R_mono h4 hF⟩
theorem QAt.far {w : World} {base : Nat} {F : Nat → Prop} {b : Nat} {S : List Qs} {need : Int} (h : QAt w base F b S need) {p : Addr} (hF : ∀ k, F k → k ≠ p.block) (u : Value) : QAt (w.setCell p u) base F b S need := by
  obtain ⟨v, h1, h2, h3, h4⟩ := h
  exact ⟨v, h1, h2, by rw [Below.heap_setCell w p u b (hF b h1)]; exact h3, Kd.R_far h4 hF u⟩
/-- who has come, of the first so many of a list -/
def whoK (n : Nat) (l : List Int) : Nat → List Bool
  | 0 => List.replicate (n + 1) false
  | k + 1 => (whoK n l k).set ((l.getD k 0 % (n : Int)).toNat + 1) true
theorem whoK_len (n : Nat) (l : List Int) : ∀ k, (whoK n l k).length = n + 1
  | 0 => by simp [whoK]
  | k + 1 => by unfold whoK; rw [List.length_set, whoK_len n l k]
structure MI (w wr : World) (b g c n : Nat) (need : Int) (wq wh : List Bool) : Prop where
  q : QAt wr w.heap.size (fun k => w.heap.size ≤ k ∧ k ≠ g) b (metS n wq) need
  r : Kd.bool.R 4 wr w.heap.size (fun k => k = g) (.slice (some ⟨g, 0, none⟩) wh.length c) wh
  hb : Below w.heap.size w wr
  hq : wq.length = n + 1
  hl : wh.length = n + 1
theorem MI.below {w wr w' : World} {b g c n : Nat} {need : Int} {wq wh : List Bool} (h : MI w wr b g c n need wq wh) (hb : Below wr.heap.size wr w') : MI w w' b g c n need wq wh :=
  ⟨h.q.below hb, Kd.R_below h.r hb, below_step h.hb hb, h.hq, h.hl⟩
theorem MI.lt {w wr : World} {b g c n : Nat} {need : Int} {wq wh : List Bool} (h : MI w wr b g c n need wq wh) : g < wr.heap.size := Kd.R_lt h.r g rfl
theorem MI.cell {w wr : World} {b g c n : Nat} {need : Int} {wq wh : List Bool} (h : MI w wr b g c n need wq wh) {i : Nat} (hi : i ≤ n) : wr.cell? ⟨g, i, none⟩ = some (.bool (wh.getD i false)) ∧ wr.frozen? ⟨g, i, none⟩ = false := by
  have := Kd.R_cell false h.r (i : Int) (by omega) (by have := h.hl; omega)
  rw [Int.toNat_natCast] at this
  simpa [rdOf] using this
theorem MI.moved {w wr u : World} {b g c n : Nat} {need : Int} {wq wq' wh : List Bool} (h : MI w wr b g c n need wq wh) (hm : Moved (fun k => w.heap.size ≤ k ∧ k ≠ g) wr u)
    (hq : QAt u w.heap.size (fun k => (w.heap.size ≤ k ∧ k ≠ g) ∨ wr.heap.size ≤ k) b (metS n wq') need) (hl : wq'.length = n + 1) : MI w u b g c n need wq' wh := by
  refine ⟨hq.mono fun k hk => ?_, Kd.R_step h.r (fun k hk hlt => hm.block k hlt (fun e => e.2 hk)), h.hb.trans (hm.below (fun k hk => hk.1) h.hb.size), hl, h.hl⟩
  rcases hk with hk | hk
  · exact hk
  · have := h.lt
    have := h.hb.size
    exact ⟨by omega, by omega⟩
theorem MI.store {w wr : World} {b g c n : Nat} {need : Int} {wq wh : List Bool} (h : MI w wr b g c n need wq wh) (i : Nat) (x : Bool) : MI w (wr.setCell ⟨g, i, none⟩ (.bool x)) b g c n need wq (wh.set i x) := by
  have hg : w.heap.size ≤ g := by
    obtain ⟨inner, ho⟩ := Kd.R_own h.r
    exact own_base ho g rfl
  have hr := (Kd.R_put h.r (i : Int) x).1
  rw [Int.toNat_natCast] at hr
  exact ⟨h.q.far (fun k hk => hk.2) _, by rw [List.length_set]; exact hr, h.hb.setCell hg _, h.hq, by rw [List.length_set]; exact h.hl⟩
theorem MI.add {w wr : World} {b g c n : Nat} {need : Int} {wq wh : List Bool} (h : MI w wr b g c n need wq wh) (hn : 1 ≤ n ∧ n ≤ 64) (hneed : need ≠ 0) {k : Nat} (hk : k < n) :
    Calls Try.prog 40 #[.pointer (some ⟨b, 0, none⟩), .int .i64 ((k : Int) + 1), .int .i64 ((k : Int) + 1)] wr fun e u => e = .returned (.int .i64 (if wq.getD (k + 1) false then 7 else 0)) ∧ MI w u b g c n need (wq.set (k + 1) true) wh := by
  refine (Add_in w.heap.size _ b (metS n wq) need _ _ wr h.q (by rw [metS_len]; omega) (by rw [metS_len]; omega) hneed h.hb.size).mono fun e u ⟨h1, h2, h3⟩ => ?_
  rw [add_met wq h.hq hk hn.2] at h1 h3
  cases hw : wq.getD (k + 1) false with
  | false =>
    rw [hw] at h1 h3
    exact ⟨h1, h.moved h2 h3 (by rw [List.length_set]; exact h.hq)⟩
  | true =>
    rw [hw] at h1 h3
    refine ⟨h1, h.moved h2 ?_ (by rw [List.length_set]; exact h.hq)⟩
    have : wq.set (k + 1) true = wq := by
      apply List.ext_getElem
      · simp
      · intro i i1 i2
        rw [List.getElem_set]
        split
        · rename_i e
          subst e
          rw [List.getD_eq_getElem?_getD, List.getElem?_eq_getElem i2] at hw
          exact hw.symm
        · rfl
    rw [this]
    exact h3
theorem info4 : (Try.prog.info? 4).map (fun i => (i.zero, i.size, i.bytes)) = some (some (.bool false), 1, 1) := by kernel_rfl
/-- what met answers -/
def MetAns (n : Nat) (need : Int) (wh : List Bool) (w : World) (e : Ending) (w' : World) : Prop :=
  ∃ b g c, e = .returned (.tuple #[.pointer (some ⟨b, 0, none⟩), .slice (some ⟨g, 0, none⟩) (n + 1) c]) ∧ MI w w' b g c n need wh wh
theorem new_first {w u : World} {n : Nat} {need : Int} {A : Option Addr} {c : Nat} (hn : 1 ≤ n ∧ n ≤ 64) (hneed : 1 ≤ need ∧ need ≤ n) (hb : Below w.heap.size w u) (hC : Kd.C kI u A (firstL n).length (firstL n)) :
    Calls Try.prog 32 #[.slice A (firstL n).length c, .int .i64 need] u fun e w' => ∃ b, e = .returned (.tuple #[.pointer (some ⟨b, 0, none⟩), .int .i64 0]) ∧ Below w.heap.size w w' ∧ QAt w' w.heap.size (fun k => w.heap.size ≤ k ∧ k < w'.heap.size) b (metS n (List.replicate (n + 1) false)) need := by
  refine (New_step A c (firstL n) need u _ hC (by rw [firstL_len]; omega) (newS_firsts hn.2) (by rw [firstL_len]; exact hneed)).mono fun e w' ⟨b, h1, h2, h3⟩ => ⟨b, h1, below_step hb h2, ?_⟩
  obtain ⟨v, k1, k2, k3, k4⟩ := h3.1
  have hle := hb.size
  refine ⟨v, ⟨by omega, (Array.getElem?_eq_some_iff.1 k3).1⟩, by omega, k3, Kd.R_mono (Kd.R_bound (Kd.R_lower k4 hle)) (fun k hk => ⟨hk.2.1, hk.2.2.1⟩)⟩
theorem mi_start {w u w1 : World} {b n : Nat} {need : Int} {v1 : Value} (hO : Kd.bool.R 4 w1 w.heap.size (fun k => u.heap.size ≤ k) v1 (List.replicate ((n : Int) + 1).toNat false)) (hG : u.grownBy w1 none)
    (hQ : QAt u w.heap.size (fun k => w.heap.size ≤ k ∧ k < u.heap.size) b (metS n (List.replicate (n + 1) false)) need) (hB : Below w.heap.size w w1) :
    ∃ g c, v1 = .slice (some ⟨g, 0, none⟩) (n + 1) c ∧ MI w w1 b g c n need (whoK n [] 0) (whoK n [] 0) := by
  rw [show ((n : Int) + 1).toNat = n + 1 by omega] at hO
  have hO' := hO
  obtain ⟨h0, inner, ho, hr⟩ := hO
  rcases ho.2 with ⟨rfl, hz⟩ | ⟨g, cap, cur, rfl, hg, _, _, hm, _⟩
  · simp at hz
  · have hug : u.heap.size ≤ g := h0 g rfl
    refine ⟨g, cap, by simp, ?_, ?_, hB, by simp [whoK], by simp [whoK]⟩
    · obtain ⟨v, k1, k2, k3, k4⟩ := hQ
      refine QAt.mono (F := fun k => w.heap.size ≤ k ∧ k < u.heap.size) ⟨v, k1, k2, ?_, ?_⟩ (fun k hk => ⟨hk.1, by omega⟩)
      · rw [hG.block b k1.2 (by simp)]; exact k3
      · exact Kd.R_grown k4 hG (fun k _ => by simp)
    · exact Kd.R_mono (Kd.R_tight rfl hO') (fun k hk => (Option.some.inj hk))
set_option maxHeartbeats 3200000 in
set_option maxRecDepth 100000 in
theorem Met47_any (n : Nat) (need : Int) (A : Option Addr) (cap : Nat) (l : List Int) (w : World) (hn : 1 ≤ n ∧ n ≤ 64) (hneed : 1 ≤ need ∧ need ≤ n) (hr : Kd.C kI w A l.length l) (hl : l.length ≤ 100) :
    Calls Try.prog 47 #[.int .i64 n, .int .i64 need, .slice A l.length cap] w (MetAns n need (whoK n l l.length) w) := by
  have HR := Aside0.mk hr
  have HN := Aside0.mk hn
  have HD := Aside0.mk hneed
  obtain ⟨hn1, hn2⟩ := hn
  obtain ⟨hd1, hd2⟩ := hneed
  have HF := Aside0.mk (first_any n w (by omega))
  clear hr
  go_enter Try.func47, Try.ntmps47
  go_wp2_with (first
    | (go_at_call 48; (with_reducible refine HF.out.mono ?_); rintro e u ⟨A1, c1, rfl, hb, hC, hc⟩; have HB1 := Aside0.mk hb; have HC1 := Aside0.mk hC; clear hb hC hc)
    | (go_at_call 32; (with_reducible refine (new_first HN.out HD.out HB1.out HC1.out).mono ?_); rintro e u2 ⟨b, rfl, hb, hq⟩; have HB2 := Aside0.mk hb; have HQ := Aside0.mk hq; clear hb hq)
    | ((with_reducible refine gate_dst (N := 28) rfl ?_); refine Kd.R_make Kd.bool (w0 := w) w.heap.size 4 rfl (N := 28) rfl 63 _ _ rfl ((n : Int) + 1) rfl rfl Try.underlying63 (.bool false) 1 info4 rfl (by decide) (by omega) false (ok := fun k => u2.heap.size ≤ k) (okp := fun _ => False) rfl (fun _ h => h.elim) (Nat.le_refl _) (by omega) (by omega) HB2.out HB2.out.size ?_; intro v1 w1 ho hb hg hat; have HO := Aside0.mk ho; have HB := Aside0.mk hb; have HG := Aside0.mk hg; clear ho hb hg hat))
  obtain ⟨g, c, hv, hm⟩ := mi_start HO.out HG.out HQ.out HB.out
  have HM : Aside0 (MI w w1 b g c n need (whoK n l 0) (whoK n l 0)) := ⟨hm⟩
  subst hv
  clear hm HO HG HQ HB HB2 HC1 HB1
  go_loopw [11, 12] (fun i k12 wr => ∃ k : Nat, k ≤ l.length ∧ i = .int .i64 k ∧ Aside0 (MI w wr b g c n need (whoK n l k) (whoK n l k))) (fun i _ _ => l.length - (intOf i).toNat)
  case atStart => exact ⟨0, by omega, rfl, HM⟩
  case round =>
    clear HM
    obtain ⟨k, hk, rfl, HM⟩ := hrel
    by_cases hgo : k < l.length
    · obtain ⟨ad, rfl, hcell⟩ := cell_get (Kd.C_below HR.out HM.out.hb) k hgo
      have hp := Int.emod_nonneg (l.getD k 0) (show (n : Int) ≠ 0 by omega)
      have hp2 := Int.emod_lt_of_pos (l.getD k 0) (show (0 : Int) < n by omega)
      obtain ⟨x, hx⟩ : ∃ x, l.getD k 0 = x := ⟨_, rfl⟩
      have HX : Aside0 (whoK n l (k + 1) = (whoK n l k).set ((x % (n : Int)).toNat + 1) true) := ⟨by rw [← hx]; rfl⟩
      rw [hx] at hcell hp hp2
      clear hx
      have HPK := Aside0.mk (fun u => Pick_any x n u (by omega) (by omega))
      obtain ⟨y, hy⟩ := Int.eq_ofNat_of_zero_le hp
      rw [hy] at HPK HX hp2
      clear hp hy
      simp only [Int.toNat_natCast] at HX
      obtain ⟨wh, hwh⟩ : ∃ wh, whoK n l k = wh := ⟨_, rfl⟩
      rw [hwh] at HX HM
      clear hwh
      have hy : y < n := by omega
      have HA := Aside0.mk (fun u (h : MI w u b g c n need wh wh) => h.add HN.out (by have := HD.out.1; omega) hy)
      rw [show ((y : Int) + 1) = 1 + (y : Int) by omega] at HA
      obtain ⟨q0, q1⟩ := HM.out.cell (i := y + 1) (by omega)
      obtain ⟨t, ht⟩ : ∃ t, wh.getD (y + 1) false = t := ⟨_, rfl⟩
      have HC := Aside0.mk (fun u (h : MI w u b g c n need (wh.set (y + 1) true) wh) => h.cell (i := y + 1) (by omega))
      rw [ht] at q0 HA HC
      clear ht
      go_wp2_with (go_at_call 19; (with_reducible refine (HPK.out _).mono ?_); rintro e u ⟨rfl, rfl⟩)
      have hi0 : (0 : Int) ≤ 1 + (y : Int) := by omega
      have hi1 : 1 + (y : Int) < ((n + 1 : Nat) : Int) := by omega
      have hi2 : (1 + (y : Int)).toNat = y + 1 := by omega
      cases t
      all_goals
       simp only [if_true, Bool.false_eq_true, if_false] at HA
       go_region_with (go_at_call 40; (with_reducible refine (HA.out _ (HM.out.below (Below.refl _ _).drew)).mono ?_); rintro e u ⟨rfl, hm⟩; have HM2 := Aside0.mk hm; clear hm; obtain ⟨r0, r1⟩ := HC.out _ HM2.out)
       all_goals
        clear HA HC HPK
        go_wp2
        go_roundw
        case rel => exact ⟨k + 1, by omega, by go_num, ⟨by rw [HX.out]; exact HM2.out.store _ _⟩⟩
        case measure => simp [intOf]; omega
    · obtain rfl : k = l.length := by omega
      go_wp2
      refine bodyPost_ret (v := .tuple #[.pointer (some ⟨b, 0, none⟩), .slice (some ⟨g, 0, none⟩) (n + 1) c]) (by simp [results, Try.results47, go_sem]) rfl ⟨b, g, c, rfl, HM.out⟩
end Go.Proofs.Ytheafmjdncmpoaa
