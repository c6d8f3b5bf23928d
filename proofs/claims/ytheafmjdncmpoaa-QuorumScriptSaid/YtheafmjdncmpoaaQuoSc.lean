/-
  QuorumScript, walked and answered.
-/
import Derived.Test.YtheafmjdncmpoaaQuoJ
import Derived.Test.YtheafmjdncmpoaaQuoT
import Derived.Test.YtheafmjdncmpoaaQuoI
import Derived.Test.YtheafmjdncmpoaaQuoW
import Derived.BigQuiet
import Derived.Deep.QuietTactic
import Derived.Deep.RegionHeld3
namespace Go.Proofs.Ytheafmjdncmpoaa
set_option linter.unusedSimpArgs false
set_option linter.unusedVariables false
open Go.RowKit Go.Proofs.YtheafmjdncmpoaaW.PrintWords Go.Proofs.YtheafmjdncmpoaaW.PrintMore

/-- both quorums, each of its own slots -/
structure Split (w wr : World) (b : Nat) (r : RB) (Sq Sr : List Qs) (need : Int) : Prop where
  q : QAt wr w.heap.size (fun k => w.heap.size ≤ k ∧ ¬ r.own k) b Sq need
  rq : RQ wr w.heap.size r Sr need
  hb : Below w.heap.size w wr
section
variable {w wr u : World} {b : Nat} {r : RB} {n : Nat} {S Sq Sr : List Qs} {need : Int}
theorem Both.split (h : Both w wr b r n S need) : Split w wr b r S S need := ⟨h.q, h.rq, h.hb⟩
theorem Split.both (h : Split w wr b r S S need) (hi : Inv n S) : Both w wr b r n S need := ⟨h.q, h.rq, h.hb, hi⟩
theorem Split.below (h : Split w wr b r Sq Sr need) (hb : Below wr.heap.size wr u) : Split w u b r Sq Sr need := ⟨h.q.below hb, h.rq.below hb, below_step h.hb hb⟩
theorem Split.half (h : Split w wr b r Sq Sr need) {S' : List Qs} (hm : Moved (fun k => w.heap.size ≤ k ∧ ¬ r.own k) wr u)
    (hq : QAt u w.heap.size (fun k => (w.heap.size ≤ k ∧ ¬ r.own k) ∨ wr.heap.size ≤ k) b S' need) : Split w u b r S' Sr need := by
  refine ⟨hq.mono fun k hk => ?_, h.rq.keep fun k hk => hm.block k (h.rq.lt k hk) (fun e => e.2 hk), h.hb.trans (hm.below (fun k hk => hk.1) h.hb.size)⟩
  rcases hk with hk | hk
  · exact hk
  · have := h.hb.size
    exact ⟨by omega, fun ho => by have := h.rq.lt k ho; omega⟩
theorem Split.other (h : Split w wr b r Sq Sr need) {S' : List Qs} (hm : Moved r.own wr u) (hr : RQ u w.heap.size r S' need) : Split w u b r Sq S' need :=
  ⟨h.q.move fun k hk hlt => hm.block k hlt hk.2, hr, h.hb.trans (hm.below (RB.own_ge h.rq) h.hb.size)⟩
theorem Split.addQ (h : Split w wr b r Sq Sr need) (hS : Sq.length ≤ 1000) (hp : 0 < Sq.length) (hneed : need ≠ 0) {s who x : Int} {S' : List Qs} (he : addI Sq s who = (x, S')) :
    Calls Try.prog 40 #[.pointer (some ⟨b, 0, none⟩), .int .i64 s, .int .i64 who] wr fun e u => e = .returned (.int .i64 x) ∧ Split w u b r S' Sr need := by
  have := Add_in w.heap.size _ b Sq need s who wr h.q hS hp hneed h.hb.size
  rw [he] at this
  exact this.mono fun e u ⟨h1, h2, h3⟩ => ⟨h1, h.half h2 h3⟩
theorem Split.loseQ (h : Split w wr b r Sq Sr need) (hS : Sq.length ≤ 1000) (hp : 0 < Sq.length) (hneed : need ≠ 0) {s x : Int} {S' : List Qs} (he : loseI Sq s = (x, S')) :
    Calls Try.prog 38 #[.pointer (some ⟨b, 0, none⟩), .int .i64 s] wr fun e u => e = .returned (.int .i64 x) ∧ Split w u b r S' Sr need := by
  have := Lose_any w.heap.size _ b Sq need s wr h.q hS hp hneed
  rw [he] at this
  exact this.mono fun e u ⟨h1, h2, h3⟩ => ⟨h1, h.half h2 (h3.mono fun k hk => .inl hk)⟩
theorem Split.addR (h : Split w wr b r Sq Sr need) (hS : Sr.length ≤ 1000) {s who x : Int} {S' : List Qs} (he : addI Sr s who = (x, S')) :
    Calls Try.prog 41 #[.pointer (some ⟨r.g, 0, none⟩), .int .i64 s, .int .i64 who] wr fun e u => e = .returned (.int .i64 x) ∧ Split w u b r Sq S' need := by
  have := radd_any h.rq hS s who
  rw [he] at this
  exact this.mono fun e u ⟨h1, h2, h3⟩ => ⟨h1, h.other h2 h3⟩
theorem Split.loseR (h : Split w wr b r Sq Sr need) (hS : Sr.length ≤ 1000) {s x : Int} {S' : List Qs} (he : loseI Sr s = (x, S')) :
    Calls Try.prog 39 #[.pointer (some ⟨r.g, 0, none⟩), .int .i64 s] wr fun e u => e = .returned (.int .i64 x) ∧ Split w u b r Sq S' need := by
  have := rlose_any h.rq hS s
  rw [he] at this
  exact this.mono fun e u ⟨h1, h2, h3⟩ => ⟨h1, h.other h2 h3⟩
end
theorem inv_new {l : List Int} {S : List Qs} (h : newS l l.length = some S) : Inv l.length S := by
  have hg := newS_get l _ S h
  refine ⟨newS_len l _ S h, fun i hi => .inl (by rw [hg i hi]), fun i j v hi hj hne e => ?_⟩
  rw [hg i hi] at e
  cases e
theorem rmajority_any (n : Int) (w : World) : Calls Try.prog 36 #[.int .i64 n] w fun e w' => e = .returned (.int .i64 (if okNode n then n / 2 + 1 else 0)) ∧ w' = w := by
  have HK := Aside0.mk (rnode_any n w)
  cases hok : okNode n with
  | false =>
    rw [hok] at HK
    clear hok
    go_enter Try.func36, Try.ntmps36
    go_wp2_with (go_at_call 69; (with_reducible refine HK.out.mono ?_); rintro e w1 ⟨rfl, hw⟩; have hw := hw.symm; subst hw)
    go_ret
    exact ⟨rfl, rfl⟩
  | true =>
    rw [hok] at HK
    have hb : 1 ≤ n ∧ n ≤ 64 := by unfold okNode at hok; simpa using hok
    obtain ⟨hb1, hb2⟩ := hb
    clear hok
    go_enter Try.func36, Try.ntmps36
    go_wp2_with (go_at_call 69; (with_reducible refine HK.out.mono ?_); rintro e w1 ⟨rfl, hw⟩; have hw := hw.symm; subst hw)
    go_ret
    exact ⟨rfl, rfl⟩
theorem rnew_bad {A : Option Addr} {cap : Nat} {l : List Int} {need : Int} {w : World} (hr : Kd.C kI w A l.length l) (hl : l.length ≤ 1000) (hS : newS l l.length = none ∨ need < 1 ∨ (l.length : Int) < need) :
    Calls Try.prog 33 #[.slice A l.length cap, .int .i64 need] w fun e w' => e = .returned (.tuple #[.pointer none, .int .i64 2]) ∧ Below w.heap.size w w' :=
  (rnew_any A cap l need w hr hl).mono fun e u h => by
    unfold RNewAns at h
    cases hc : newS l l.length with
    | none => rw [hc] at h; exact h
    | some S =>
      rw [hc] at h hS
      simp only at h
      rw [if_pos (by rcases hS with h | h; cases h; exact h)] at h
      exact h
theorem rnew_good {A : Option Addr} {cap : Nat} {l : List Int} {need : Int} {w : World} {S : List Qs} (hr : Kd.C kI w A l.length l) (hl : l.length ≤ 1000) (hS : newS l l.length = some S) (hn : 1 ≤ need ∧ need ≤ l.length) :
    Calls Try.prog 33 #[.slice A l.length cap, .int .i64 need] w fun e w' => ∃ r, e = .returned (.tuple #[.pointer (some ⟨r.g, 0, none⟩), .int .i64 0]) ∧ Below w.heap.size w w' ∧ RQ w' w.heap.size r S need :=
  (rnew_any A cap l need w hr hl).mono fun e u h => by
    unfold RNewAns at h
    rw [hS] at h
    simp only at h
    rw [if_neg (by omega)] at h
    exact h
theorem Copy_row {A : Option Addr} {c : Nat} {l : List Int} {w : World} (h : Kd.C kI w A l.length l) (hl : l.length ≤ 1000) (hc : A = none → c = 0) :
    Calls Try.prog 31 #[.slice A l.length c] w fun e w' => ∃ A1 c1, e = .returned (.slice A1 l.length c1) ∧ Below w.heap.size w w' ∧ Row3 w' w.heap.size (.slice A1 l.length c1) l :=
  (CopyInts_any A c l w h hl hc).mono fun e u ⟨v, h1, h2, h3⟩ => by
    obtain ⟨A1, c1, e1, _⟩ := Kd.R_reads h3.1
    subst e1
    exact ⟨A1, c1, h1, h2, h3⟩
set_option maxHeartbeats 6400000 in
set_option maxRecDepth 100000 in
theorem script_bad (A : Option Addr) (c : Nat) (l : List Int) (need : Int) (A2 : Option Addr) (c2 : Nat) (acts : List Act3) (nodes : Int) (w : World) (h : Kd.C kI w A l.length l) (hc : A = none → c = 0) (ha : acts.length ≤ 9223372036854775807)
    (g1 : l.length ≤ 70) (g2 : acts.length ≤ 200) (hS : newS l l.length = none ∨ need < 1 ∨ (l.length : Int) < need) :
    Calls Try.prog 8 #[.slice A l.length c, .int .i64 need, .slice A2 acts.length c2, .int .i64 nodes] w fun e w' => e = .returned (.bool true) ∧ Below w.heap.size w w' := by
  have H := Aside0.mk h
  have HREF := Aside0.mk (Below.refl w.heap.size w)
  have HCP := Aside0.mk (Copy_row h (by omega) hc)
  have HSS := Aside0.mk hS
  have LL : Aside0 (l.length ≤ 1000) := ⟨by omega⟩
  obtain ⟨mj, hmj⟩ : ∃ mj, (if okNode nodes then nodes / 2 + 1 else 0) = mj := ⟨_, rfl⟩
  have HM1 := Aside0.mk (fun u => majority_any nodes u)
  have HM2 := Aside0.mk (fun u => rmajority_any nodes u)
  rw [hmj] at HM1 HM2
  clear h hc hS hmj
  go_enter Try.func8, Try.ntmps8
  go_wp2_with (first
    | (go_at_call 31; (with_reducible refine HCP.out.mono ?_); rintro e u1 ⟨A1, c1, rfl, hb, hr⟩; have HR1 := Aside0.mk hr; have HB1 := Aside0.mk (below_step HREF.out hb); have HU := Aside0.mk (Below.refl u1.heap.size u1); clear hr hb)
    | (go_at_call 32; (with_reducible refine (New_fails A1 c1 l need _ HR1.out.reads LL.out HSS.out).mono ?_); rintro e u2 ⟨rfl, hb⟩; have HX := Aside0.mk (below_step HU.out hb); clear HU hb; have HU := HX; clear HX)
    | (go_at_call 33; (with_reducible refine (rnew_bad (Kd.C_below H.out (below_step HB1.out HU.out)) LL.out HSS.out).mono ?_); rintro e u2 ⟨rfl, hb⟩; have HX := Aside0.mk (below_step HU.out hb); clear HU hb; have HU := HX; clear HX)
    | (go_at_call 34; (with_reducible refine (same_any _ _ _ _ l _ (HR1.out.below HU.out).reads (Kd.C_below H.out (below_step HB1.out HU.out))).mono ?_); rintro e u2 ⟨rfl, hb⟩; have HX := Aside0.mk (below_step HU.out hb); clear HU hb; have HU := HX; clear HX)
    | (go_at_call 35; (with_reducible refine (HM1.out _).mono ?_); rintro e u2 ⟨rfl, hw⟩; have hw := hw.symm; subst hw)
    | (go_at_call 36; (with_reducible refine (HM2.out _).mono ?_); rintro e u2 ⟨rfl, hw⟩; have hw := hw.symm; subst hw)
    | (go_at_call 37; (with_reducible refine (Over_any (HR1.out.below HU.out)).mono ?_); rintro e u4 ⟨rfl, hm⟩; have HB2 := Aside0.mk ((below_step HB1.out HU.out).trans (hm.below (fun k hk => (HR1.out.base k hk.symm).1) (below_step HB1.out HU.out).size)); clear hm)
    | (go_at_call 30; (with_reducible refine (awake_any _).mono ?_); rintro e u5 ⟨rfl, hb⟩; have HB3 := Aside0.mk (below_step HB2.out hb); clear hb))
  go_ret
  exact ⟨rfl, HB3.out⟩
theorem RQ.lower {w : World} {base base' : Nat} {r : RB} {S : List Qs} {need : Int} (h : RQ w base r S need) (hb : base' ≤ base) : RQ w base' r S need :=
  ⟨h.hg, h.hs, h.hb, h.ho, h.ne, Nat.le_trans hb h.bg, Nat.le_trans hb h.bs, Nat.le_trans hb h.bb, Nat.le_trans hb h.bo, h.wf⟩
theorem QAt.bound {w : World} {base base' : Nat} {F : Nat → Prop} {b : Nat} {S : List Qs} {need : Int} (h : QAt w base F b S need) (hb : base' ≤ base) : QAt w base' (fun k => base ≤ k ∧ k < w.heap.size) b S need := by
  obtain ⟨v, h1, h2, h3, h4⟩ := h
  exact ⟨v, ⟨h2, (Array.getElem?_eq_some_iff.1 h3).1⟩, Nat.le_trans hb h2, h3, Kd.R_lower (Kd.R_mono (Kd.R_bound h4) (fun k hk => ⟨hk.2.1, hk.2.2.1⟩)) hb⟩
theorem both_start {w W1 W2 W3 W4 W5 : World} {b n : Nat} {r : RB} {S : List Qs} {need : Int} {v : Value} (h01 : Below w.heap.size w W1) (hq : QB W2 W1.heap.size b S need) (h12 : Below W1.heap.size W1 W2)
    (hr : RQ W3 W2.heap.size r S need) (h23 : Below W2.heap.size W2 W3) (h34 : Below W3.heap.size W3 W4) (hm : Moved (fun k => some k = v.ownBlock) W4 W5) (hv : ∀ k, v.ownBlock = some k → w.heap.size ≤ k ∧ k < W1.heap.size) (hi : Inv n S) : Both w W5 b r n S need := by
  have hge := RB.own_ge (w := W2) hr
  have hq2 := (hq.1.bound h01.size).mono (F' := fun k => w.heap.size ≤ k ∧ k < W2.heap.size ∧ W1.heap.size ≤ k) fun k hk => ⟨Nat.le_trans h01.size hk.1, hk.2, hk.1⟩
  have hq4 := (hq2.below h23).below h34
  have hb := ((h01.trans (Below.lower h12 h01.size)).trans (Below.lower h23 (Nat.le_trans h01.size h12.size)))
  have hb4 := hb.trans (Below.lower h34 hb.size)
  refine ⟨(hq4.mono (F' := fun k => w.heap.size ≤ k ∧ k < W2.heap.size ∧ W1.heap.size ≤ k) fun k hk => hk).move (fun k hk hlt => hm.block k hlt fun e => ?_) |>.mono fun k hk => ⟨hk.1, fun ho => ?_⟩, ((hr.below h34).lower ?_).keep fun k hk => hm.block k ?_ fun e => ?_, hb4.trans (hm.below (fun k hk => (hv k hk.symm).1) hb4.size), hi⟩
  · have := (hv k e.symm).2
    omega
  · have := hge k ho
    omega
  · exact Nat.le_trans h01.size h12.size
  · exact Nat.lt_of_lt_of_le (hr.lt k hk) h34.size
  · have := (hv k e.symm).2
    have := hge k hk
    have := h12.size
    omega
theorem Wf_pos {w W : World} {b n : Nat} {r : RB} {S : List Qs} {need : Int} (h : Both w W b r n S need) (hn : 1 ≤ n) (hn2 : n ≤ 70) : S.length ≤ 1000 ∧ 0 < S.length := by
  have := h.inv.len
  omega
set_option maxHeartbeats 12800000 in
set_option maxRecDepth 100000 in
theorem script_good (A : Option Addr) (c : Nat) (l : List Int) (need : Int) (A2 : Option Addr) (c2 : Nat) (acts : List Act3) (nodes : Int) (w : World) (S0 : List Qs) (h : Kd.C kI w A l.length l) (hc : A = none → c = 0) (ha : IsActs w A2 acts.length c2 acts)
    (g1 : l.length ≤ 70) (g2 : acts.length ≤ 200) (hS : newS l l.length = some S0) (hn : 1 ≤ need ∧ need ≤ l.length) :
    Calls Try.prog 8 #[.slice A l.length c, .int .i64 need, .slice A2 acts.length c2, .int .i64 nodes] w fun e w' => e = .returned (.bool true) ∧ Below w.heap.size w w' := by
  have H := Aside0.mk h
  have HACT := Aside0.mk ha
  have HREF := Aside0.mk (Below.refl w.heap.size w)
  have HCP := Aside0.mk (Copy_row h (by omega) hc)
  have HSS := Aside0.mk hS
  have HN := Aside0.mk hn
  have HI := Aside0.mk (inv_new hS)
  have LL : Aside0 (l.length ≤ 1000) := ⟨by omega⟩
  have hn1 : 1 ≤ l.length := by omega
  have hne : Aside0 (need ≠ 0) := ⟨by omega⟩
  obtain ⟨mj, hmj⟩ : ∃ mj, (if okNode nodes then nodes / 2 + 1 else 0) = mj := ⟨_, rfl⟩
  have HM1 := Aside0.mk (fun u => majority_any nodes u)
  have HM2 := Aside0.mk (fun u => rmajority_any nodes u)
  rw [hmj] at HM1 HM2
  clear h hc hS hmj hn ha
  go_enter Try.func8, Try.ntmps8
  go_wp2_with (first
    | (go_at_call 31; (with_reducible refine HCP.out.mono ?_); rintro e W1 ⟨A1, c1, rfl, hb, hr⟩; have HR1 := Aside0.mk hr; have HB1 := Aside0.mk (below_step HREF.out hb); clear hr hb)
    | (go_at_call 32; (with_reducible refine (New_step A1 c1 l need _ S0 HR1.out.reads LL.out HSS.out HN.out).mono ?_); rintro e W2 ⟨b, rfl, hb, hq⟩; have HQ := Aside0.mk hq; have HB2 := Aside0.mk hb; clear hq hb)
    | (go_at_call 33; (with_reducible refine (rnew_good (Kd.C_below H.out (below_step HB1.out HB2.out)) LL.out HSS.out HN.out).mono ?_); rintro e W3 ⟨r, rfl, hb, hq⟩; have HRQ := Aside0.mk hq; have HB3 := Aside0.mk hb; have HU := Aside0.mk (Below.refl W3.heap.size W3); clear hq hb)
    | (go_at_call 34; (with_reducible refine (same_any _ _ _ _ l _ (HR1.out.below (below_step (below_step HB2.out HB3.out) HU.out)).reads (Kd.C_below H.out (below_step HB1.out (below_step (below_step HB2.out HB3.out) HU.out)))).mono ?_); rintro e u2 ⟨rfl, hb⟩; have HX := Aside0.mk (below_step HU.out hb); clear HU hb; have HU := HX; clear HX)
    | (go_at_call 35; (with_reducible refine (HM1.out _).mono ?_); rintro e u2 ⟨rfl, hw⟩; have hw := hw.symm; subst hw)
    | (go_at_call 36; (with_reducible refine (HM2.out _).mono ?_); rintro e u2 ⟨rfl, hw⟩; have hw := hw.symm; subst hw)
    | (go_at_call 37; (with_reducible refine (Over_any (HR1.out.below (below_step (below_step HB2.out HB3.out) HU.out))).mono ?_); rintro e u4 ⟨rfl, hm⟩; have HO := Aside0.mk (both_start HB1.out HQ.out HB2.out HRQ.out HB3.out HU.out hm (fun k hk => HR1.out.base k hk) HI.out); clear hm HM1 HM2 HRQ HQ HR1 HU))
  obtain ⟨n, hnl⟩ : ∃ n, l.length = n := ⟨_, rfl⟩
  rw [hnl] at HO
  have HNN : Aside0 (1 ≤ n ∧ n ≤ 70) := ⟨by omega⟩
  clear hnl HCP HREF
  go_loopw [14] (fun i wr => ∃ (k : Nat) (S : List Qs), k ≤ acts.length ∧ i = .int .i64 k ∧ Aside0 (Both w wr b r n S need)) (fun i _ => acts.length - (intOf i).toNat)
  case atStart => exact ⟨0, S0, by omega, rfl, HO⟩
  case round =>
    clear HO
    obtain ⟨k, S, hk, rfl, HO⟩ := hrel
    by_cases hgo : k < acts.length
    · obtain ⟨ad, rfl, x0, x1, x2⟩ := HACT.out.2.2 k hgo
      obtain ⟨⟨o, s, who⟩, hact⟩ : ∃ q, acts.getD k zA = q := ⟨_, rfl⟩
      rw [hact] at x0 x1 x2
      clear hact
      simp only at x0 x1 x2
      have HXS := Aside0.mk (fun u (hb : Below w.heap.size w u) => (⟨pw_cell_below hb x0, by rw [← add_field _ _ 1 (by omega)]; exact pw_cell_below hb x1, by rw [← add_field _ _ 2 (by omega)]; exact pw_cell_below hb x2⟩ : u.cell? (ad.add (k * 3)) = some (.bool o) ∧ u.cell? ⟨(ad.add (k * 3)).block, (ad.add (k * 3)).off + 1, none⟩ = some (.int .i64 s) ∧ u.cell? ⟨(ad.add (k * 3)).block, (ad.add (k * 3)).off + 2, none⟩ = some (.int .i64 who)))
      clear x0 x1 x2
      have hlen := Wf_pos HO.out HNN.out.1 HNN.out.2
      have HLEN := Aside0.mk hlen
      clear hlen
      cases o with
      | true =>
        have hinv := (lose_step HO.out.inv s).1
        obtain ⟨⟨x, S'⟩, he⟩ : ∃ q, loseI S s = q := ⟨_, rfl⟩
        rw [he] at hinv
        have HE := Aside0.mk he
        have HINV := Aside0.mk hinv
        clear he hinv
        have HSp := Aside0.mk (HO.out.split.below (Below.refl _ _).drew)
        go_wp2_with fail
        go_region_held3 (fun w' => w'.cell? (ad.add (k * 3)) = some (.bool true) ∧ w'.cell? ⟨(ad.add (k * 3)).block, (ad.add (k * 3)).off + 1, none⟩ = some (.int .i64 s) ∧ w'.cell? ⟨(ad.add (k * 3)).block, (ad.add (k * 3)).off + 2, none⟩ = some (.int .i64 who))
          (first | exact HXS.out _ (below_drew HO.out.hb) | assumption)
          (first | (go_at_call 38; (with_reducible refine (HSp.out.loseQ HLEN.out.1 HLEN.out.2 hne.out HE.out).mono ?_); rintro e u ⟨rfl, h⟩; have HX := Aside0.mk h; clear HSp h; have HSp := HX; clear HX; have hk := HXS.out _ HSp.out.hb) | (go_at_call 39; (with_reducible refine (HSp.out.loseR HLEN.out.1 HE.out).mono ?_); rintro e u ⟨rfl, h⟩; have HX := Aside0.mk h; clear HSp h; have HSp := HX; clear HX; have hk := HXS.out _ HSp.out.hb))
        all_goals
          have HO2 := Aside0.mk (HSp.out.both HINV.out)
          obtain ⟨x0, x1, x2⟩ := HXS.out _ HSp.out.hb
          have HO1 := HO2
          clear HO2 HSp HO
          go_wp2_with fail
          go_quiet (fail)
          rename_i nq
          have HO2 := Aside0.mk (HO1.out.below (pw_below_drewN (Below.refl _ _) nq))
          clear x0 x1 x2
          go_wp2_with (go_at_call 42; (with_reducible refine (alike_any HO2.out (by have := HNN.out.2; omega) hne.out).mono ?_); rintro e u9 ⟨rfl, hb⟩; have HO3 := Aside0.mk (HO2.out.below hb); clear hb)
          go_roundw
          case rel => exact ⟨k + 1, S', by omega, by go_num, HO3⟩
          case measure => simp [intOf]; omega
      | false =>
        have hinv := (add_step HO.out.inv s who).1
        obtain ⟨⟨x, S'⟩, he⟩ : ∃ q, addI S s who = q := ⟨_, rfl⟩
        rw [he] at hinv
        have HE := Aside0.mk he
        have HINV := Aside0.mk hinv
        clear he hinv
        obtain ⟨x0, x1, x2⟩ := HXS.out _ HO.out.hb
        go_wp2_with fail
        go_quiet (fail)
        rename_i nq
        clear x0 x1 x2
        have HO1 := Aside0.mk (HO.out.below (pw_below_drewN (Below.refl _ _) nq))
        clear HO
        generalize wr.drewN nq = wq at HO1 ⊢
        go_wp2_with fail
        have HSp := Aside0.mk (HO1.out.split.below (Below.refl _ _).drew)
        go_region_held3 (fun w' => w'.cell? (ad.add (k * 3)) = some (.bool false) ∧ w'.cell? ⟨(ad.add (k * 3)).block, (ad.add (k * 3)).off + 1, none⟩ = some (.int .i64 s) ∧ w'.cell? ⟨(ad.add (k * 3)).block, (ad.add (k * 3)).off + 2, none⟩ = some (.int .i64 who))
          (first | exact HXS.out _ (below_drew HO1.out.hb) | assumption)
          (first | (go_at_call 40; (with_reducible refine (HSp.out.addQ HLEN.out.1 HLEN.out.2 hne.out HE.out).mono ?_); rintro e u ⟨rfl, h⟩; have HX := Aside0.mk h; clear HSp h; have HSp := HX; clear HX; have hk := HXS.out _ HSp.out.hb) | (go_at_call 41; (with_reducible refine (HSp.out.addR HLEN.out.1 HE.out).mono ?_); rintro e u ⟨rfl, h⟩; have HX := Aside0.mk h; clear HSp h; have HSp := HX; clear HX; have hk := HXS.out _ HSp.out.hb))
        all_goals
          have HO2 := Aside0.mk (HSp.out.both HINV.out)
          clear HSp HO1
          go_wp2_with (go_at_call 42; (with_reducible refine (alike_any HO2.out (by have := HNN.out.2; omega) hne.out).mono ?_); rintro e u9 ⟨rfl, hb⟩; have HO3 := Aside0.mk (HO2.out.below hb); clear hb)
          go_roundw
          case rel => exact ⟨k + 1, S', by omega, by go_num, HO3⟩
          case measure => simp [intOf]; omega
    · obtain rfl : k = acts.length := by omega
      have HAL := Aside0.mk (alike_any HO.out (by have := HNN.out.2; omega) hne.out)
      go_wp2_with (first
        | (go_at_call 42; (with_reducible refine HAL.out.mono ?_); rintro e u9 ⟨rfl, hb⟩; have HB9 := Aside0.mk (below_step HO.out.hb hb); clear hb)
        | (go_at_call 30; (with_reducible refine (awake_any _).mono ?_); rintro e u8 ⟨rfl, hb⟩; have HB8 := Aside0.mk (below_step HB9.out hb); clear hb))
      go_ret
      exact ⟨rfl, HB8.out⟩
theorem script_over (A : Option Addr) (c n : Nat) (need : Int) (A2 : Option Addr) (c2 m : Nat) (nodes : Int) (w : World) (h1 : n ≤ 9223372036854775807) (h2 : m ≤ 9223372036854775807) (h : 70 < n ∨ 200 < m) :
    Calls Try.prog 8 #[.slice A n c, .int .i64 need, .slice A2 m c2, .int .i64 nodes] w fun e w' => e = .returned (.bool true) ∧ Below w.heap.size w w' := by
  by_cases g1 : n ≤ 70
  · have g2 : (200 : Int) < (m : Int) := by omega
    clear h
    go_enter Try.func8, Try.ntmps8
    go_wp2_with (go_at_call 30; (with_reducible refine (awake_any _).mono ?_); rintro e u ⟨rfl, hb⟩; have HB := Aside0.mk hb; clear hb)
    go_ret
    exact ⟨rfl, HB.out⟩
  · have g2 : (70 : Int) < (n : Int) := by omega
    clear h g1
    go_enter Try.func8, Try.ntmps8
    go_wp2_with (go_at_call 30; (with_reducible refine (awake_any _).mono ?_); rintro e u ⟨rfl, hb⟩; have HB := Aside0.mk hb; clear hb)
    go_ret
    exact ⟨rfl, HB.out⟩
theorem quorumScript_walk (a : Option Addr) (n c : Nat) (z : List Int) (need : Int) (a2 : Option Addr) (m c2 : Nat) (acts : List Act3) (nodes : Int) (w : World) (w0 : IsRow .i64 w a n c z) (_ : (Lit.int .i64 need).wf = true) (w2 : IsActs w a2 m c2 acts) (_ : (Lit.int .i64 nodes).wf = true) :
    Calls Try.prog 8 #[.slice a n c, .int .i64 need, .slice a2 m c2, .int .i64 nodes] w fun e w' => e = .returned (.bool true) ∧ Below w.heap.size w w' := by
  have hc : a = none → c = 0 := by
    intro e
    rcases w0 with ⟨_, _, h, _⟩ | ⟨x, h, _⟩
    · exact h
    · rw [h] at e; cases e
  obtain ⟨l, rfl, h1, _⟩ := isRow_C w0
  obtain rfl : acts.length = m := w2.1
  by_cases g : 70 < l.length ∨ 200 < acts.length
  · exact script_over a c l.length need a2 c2 acts.length nodes w h1.2.1 w2.2.1 g
  · by_cases hb : newS l l.length = none ∨ need < 1 ∨ (l.length : Int) < need
    · exact script_bad a c l need a2 c2 acts nodes w h1 hc w2.2.1 (by omega) (by omega) hb
    · cases hS : newS l l.length with
      | none => exact absurd (.inl hS) hb
      | some S => exact script_good a c l need a2 c2 acts nodes w S h1 hc w2 (by omega) (by omega) hS (by rw [hS] at hb; simp at hb; omega)
end Go.Proofs.Ytheafmjdncmpoaa
